/- Walks: impl.DeedDo, the kinds of deeds that change a survey (the theorems are written by wip/bin/gen_g6.py). -/
import Derived.Test.YthfoloefkfadlaaGreatDoorK4
import Derived.Deep.RegionHeld3
set_option linter.unusedSimpArgs false
set_option linter.unusedVariables false
set_option maxHeartbeats 2000000
namespace Go.Proofs.YthfoloefkfadlaaGreatDoor
open Go Go.RowKit Go.Sort
theorem zapz (a:Option Addr) (c:Nat) (st:Int) (l:List Lg) (ix:Int) (g:Lg) (w:World) (hl:l.length≤1048576) (hs:Legs w a l) (hv:svOk ⟨st,l⟩=true) (hfit:ddFits ⟨4,ix,g⟩=true) (ht:ddTry ⟨st,l⟩ ⟨4,ix,g⟩=some ⟨st+1,l⟩) (hst:1≤st∧st≤6) :
 Calls Tryz.prog 50 #[.agg #[.int .i64 st,.slice a l.length c],(⟨4,ix,g⟩:Dd).val] w (SvOut (ddDo ⟨st,l⟩ ⟨4,ix,g⟩) w):=by
 obtain ⟨x1,x2,x3,x4,x5⟩:=g
 show Calls Tryz.prog 50 #[.agg #[.int .i64 st,.slice a l.length c],.agg #[.int .i64 4,.int .i64 ix,.int .i64 x1,.int .i64 x2,.int .i64 x3,.int .i64 x4,.int .i64 x5]] w _
 obtain ⟨hst1,hst2⟩:=hst
 go_enter Tryz.func50,Tryz.ntmps50
 go_wp2_with fail;obtain ⟨X,hX⟩:=qN (w.heap.size);obtain ⟨W0,hW0⟩:=qM (((w.alloc (.cells #[.int .i64 st,.slice a l.length c] 25)).alloc (.cells #[.int .i64 4,.int .i64 ix,.int .i64 x1,.int .i64 x2,.int .i64 x3,.int .i64 x4,.int .i64 x5] 82)).alloc (.cells #[.int .i64 0,.slice none 0 0] 25))
 have F0:Fr W0 X st (.slice a l.length c) ⟨4,ix,⟨x1,x2,x3,x4,x5⟩⟩:=by rw [hW0,← hX];exact Fr.new w st _ ⟨4,ix,⟨x1,x2,x3,x4,x5⟩⟩ _ _ _
 have b0:Below w.heap.size w W0:=by rw [hW0];exact qBl
 rw [hX,← hW0];clear hW0;refine (zaab _ _ st l _ hl (hs.below b0)).mono ?_;rintro e w1 ⟨rfl,b1⟩;rw [hv];replace F0:=F0.below b1;replace b0:=b0.trans (b1.mono b0.size);clear b1 W0;obtain ⟨s0,s1,s2,-,-⟩:=F0.s;go_wp2_with fail;clear s0 s1 s2;have hX1:=F0.r.lt;refine (zaai _ _ st l _ hl (hs.below b0)).mono ?_;rintro e w2 ⟨v,rfl,o1,b1⟩;obtain ⟨av,cv,rfl⟩:=o1.sl;replace F0:=F0.below b1;have bw2:=b0.trans (b1.mono b0.size);have hB1:w1.heap.size≤w2.heap.size:=b1.size;have hBw:=b0.size
 have hoY:∀ k,(Value.slice av l.length cv).ownBlock=some k→k<w2.heap.size:=fun k hk=>(o1.lt hk).2
 clear b1;go_wp2_with fail;obtain ⟨Y,hY⟩:=qN (w2.heap.size);obtain ⟨W3,hW3⟩:=qM (w2.alloc (.cells #[.int .i64 st,.slice av l.length cv] 25))
 have A0:AtS W3 Y st (.slice av l.length cv):=by rw [hW3,← hY];exact AtS.new w2 st _ _
 have b3:Below w2.heap.size w2 W3:=by rw [hW3];exact qBl
 rw [hY,← hW3];clear hW3;replace F0:=F0.below b3;replace o1:=o1.below b3;replace bw2:=bw2.trans (b3.mono bw2.size);rw [hY] at hB1 hoY;clear b3 b0 hY w2;obtain ⟨s0,s1,s2,-,-⟩:=F0.s;obtain ⟨d0,d1,d2,d3,d4,d5,d6,d7⟩:=F0.d;simp only at d1 d2 d3 d4 d5 d6 d7;have k1:=cell_regrown s1;have k2:=cell_regrown s2;have e1:=cell_regrown d1;have e2:=cell_regrown d2;have e3:=cell_regrown d3;have e4:=cell_regrown d4;have e5:=cell_regrown d5;have e6:=cell_regrown d6;have e7:=cell_regrown d7;have i1:=zaad (w:=W3) (zaaw ⟨4,ix,⟨x1,x2,x3,x4,x5⟩⟩);simp only [Dd.val,hfit] at i1;refine wp_region_quiet_below (by kernel_rfl) (by kernel_rfl) ?_
 repeat (first|go_big_quiet_step (first|with_reducible exact i1 _ _)|quiet_step (first|with_reducible exact i1 _ _))
 refine wpQuiet_nil ?_;intro _ hw';obtain ⟨⟨dq,osq⟩,hw''⟩:=hw';have hgr:Below W3.heap.size W3 (grow (redrawn W3 dq) osq):=below_regrown W3 dq osq;subst hw'';generalize grow (redrawn W3 dq) osq=W4 at hgr ⊢;clear k1 k2 e1 e2 e3 e4 e5 e6 e7 i1 s0 s1 s2 d0 d1 d2 d3 d4 d5 d6 d7;replace F0:=F0.below hgr;replace A0:=A0.below hgr;replace o1:=o1.below hgr;replace bw2:=bw2.trans (hgr.mono bw2.size);clear hgr W3;obtain ⟨s0,s1,s2,-,-⟩:=F0.s;obtain ⟨d0,d1,d2,d3,d4,d5,d6,d7⟩:=F0.d;simp only at d1 d2 d3 d4 d5 d6 d7;obtain ⟨a0,a1,a2,a3,a4⟩:=id A0;go_wp2_with fail;obtain ⟨W5,hW5⟩:=qM (W4.setCell ⟨Y,0,none⟩ (.int .i64 (st+1)));rw [← hW5]
 have hYs:(Value.slice av l.length cv).ownBlock≠some Y:=fun h=>absurd (hoY _ h) (Nat.lt_irrefl _)
 have b5:Below w1.heap.size W4 W5:=by rw [hW5];exact (Below.refl _ _).setCell (by show _≤Y;omega) _
 have F5:=F0.belowB b5 hX1
 have A5:AtS W5 Y (st+1) (.slice av l.length cv):=by rw [hW5];exact A0.set0 _
 have o5:OwnL W5 w1.heap.size (.slice av l.length cv) l:=by rw [hW5];exact o1.setOther (p:=⟨Y,0,none⟩) hYs _
 have bw5:=bw2.trans (b5.mono hBw);clear hW5 b5 F0 A0 o1 bw2 a0 a1 a2 a3 a4 s0 s1 s2 d0 d1 d2 d3 d4 d5 d6 d7 W4;have hlz:=hl;have hlz:l.length≤1048576:=hlz;obtain ⟨s0,s1,s2,-,-⟩:=F5.s;have HT:=Lib.hid ht;clear ht;refine (zaab _ _ (st+1) l _ hlz (by obtain ⟨_,_,e,_,_,hr⟩:=o5.rd;cases e;exact hr)).mono ?_;rintro e w6 ⟨rfl,b6⟩;clear s0 s1 s2
 cases hk:svOk ⟨st+1,l⟩
 · replace F5:=F5.below b6
   replace bw5:=bw5.trans (b6.mono bw5.size);clear b6 o5 A5;obtain ⟨s0,s1,s2,-,-⟩:=F5.s;go_wp2_with fail;refine (zaai _ _ st l _ hl (hs.below bw5)).mono ?_;rintro e w7 ⟨v7,rfl,o7,b7⟩;obtain ⟨a7,c7,rfl⟩:=o7.sl;clear s0 s1 s2;have hX7:=F5.r.lt;have hB7:=bw5.size;replace F5:=F5.below b7;replace bw5:=bw5.trans (b7.mono bw5.size);obtain ⟨r0,r1,r2,r3,r4⟩:=F5.r;clear b7 F5;go_wp2_with fail;have oF:=((o7.setCell (p:=⟨X+1+1,0,none⟩) hX7 (.int .i64 st)).setCell (p:=⟨X+1+1,1,none⟩) hX7 (.slice a7 l.length c7)).mono hB7;have bF:Below w.heap.size w ((w7.setCell ⟨X+1+1,0,none⟩ (.int .i64 st)).setCell ⟨X+1+1,1,none⟩ (.slice a7 l.length c7)):=(bw5.setCell (by show _≤X+1+1;omega) _).setCell (by show _≤X+1+1;omega) _;refine bodyPost_ret (v:=.tuple #[.agg #[.int .i64 st,.slice a7 l.length c7],.bool false]) (by simp [results,Tryz.results50,go_sem,r1,r2]) rfl ?_;rw [zaa2 hv HT.out hk]
   exact ⟨_,rfl,oF,bF⟩
 · replace F5:=F5.below b6
   replace bw5:=bw5.trans (b6.mono bw5.size);replace o5:=o5.below b6;replace A5:=A5.below b6;clear b6;obtain ⟨r0,r1,r2,r3,r4⟩:=F5.r;obtain ⟨a0,a1,a2,a3,a4⟩:=A5;go_wp2_with fail;have oF:=((o5.setCell (p:=⟨X+1+1,0,none⟩) hX1 (.int .i64 (st+1))).setCell (p:=⟨X+1+1,1,none⟩) hX1 (.slice av l.length cv)).mono hBw;have bF:Below w.heap.size w ((w6.setCell ⟨X+1+1,0,none⟩ (.int .i64 (st+1))).setCell ⟨X+1+1,1,none⟩ (.slice av l.length cv)):=(bw5.setCell (by show _≤X+1+1;omega) _).setCell (by show _≤X+1+1;omega) _;refine bodyPost_ret (v:=.tuple #[.agg #[.int .i64 (st+1),.slice av l.length cv],.bool true]) (by simp [results,Tryz.results50,go_sem,r1,r2]) rfl ?_;rw [zaa9 hv HT.out hk]
   exact ⟨_,rfl,oF,bF⟩
theorem zap0 (a:Option Addr) (c:Nat) (st:Int) (l:List Lg) (ix:Int) (g:Lg) (w:World) (hl:l.length≤1048576) (hs:Legs w a l) (hv:svOk ⟨st,l⟩=true) (hfit:ddFits ⟨5,ix,g⟩=true) (ht:ddTry ⟨st,l⟩ ⟨5,ix,g⟩=some ⟨st - 1,l⟩) (hst:1≤st∧st≤6) :
 Calls Tryz.prog 50 #[.agg #[.int .i64 st,.slice a l.length c],(⟨5,ix,g⟩:Dd).val] w (SvOut (ddDo ⟨st,l⟩ ⟨5,ix,g⟩) w):=by
 obtain ⟨x1,x2,x3,x4,x5⟩:=g
 show Calls Tryz.prog 50 #[.agg #[.int .i64 st,.slice a l.length c],.agg #[.int .i64 5,.int .i64 ix,.int .i64 x1,.int .i64 x2,.int .i64 x3,.int .i64 x4,.int .i64 x5]] w _
 obtain ⟨hst1,hst2⟩:=hst
 go_enter Tryz.func50,Tryz.ntmps50
 go_wp2_with fail;obtain ⟨X,hX⟩:=qN (w.heap.size);obtain ⟨W0,hW0⟩:=qM (((w.alloc (.cells #[.int .i64 st,.slice a l.length c] 25)).alloc (.cells #[.int .i64 5,.int .i64 ix,.int .i64 x1,.int .i64 x2,.int .i64 x3,.int .i64 x4,.int .i64 x5] 82)).alloc (.cells #[.int .i64 0,.slice none 0 0] 25))
 have F0:Fr W0 X st (.slice a l.length c) ⟨5,ix,⟨x1,x2,x3,x4,x5⟩⟩:=by rw [hW0,← hX];exact Fr.new w st _ ⟨5,ix,⟨x1,x2,x3,x4,x5⟩⟩ _ _ _
 have b0:Below w.heap.size w W0:=by rw [hW0];exact qBl
 rw [hX,← hW0];clear hW0;refine (zaab _ _ st l _ hl (hs.below b0)).mono ?_;rintro e w1 ⟨rfl,b1⟩;rw [hv];replace F0:=F0.below b1;replace b0:=b0.trans (b1.mono b0.size);clear b1 W0;obtain ⟨s0,s1,s2,-,-⟩:=F0.s;go_wp2_with fail;clear s0 s1 s2;have hX1:=F0.r.lt;refine (zaai _ _ st l _ hl (hs.below b0)).mono ?_;rintro e w2 ⟨v,rfl,o1,b1⟩;obtain ⟨av,cv,rfl⟩:=o1.sl;replace F0:=F0.below b1;have bw2:=b0.trans (b1.mono b0.size);have hB1:w1.heap.size≤w2.heap.size:=b1.size;have hBw:=b0.size
 have hoY:∀ k,(Value.slice av l.length cv).ownBlock=some k→k<w2.heap.size:=fun k hk=>(o1.lt hk).2
 clear b1;go_wp2_with fail;obtain ⟨Y,hY⟩:=qN (w2.heap.size);obtain ⟨W3,hW3⟩:=qM (w2.alloc (.cells #[.int .i64 st,.slice av l.length cv] 25))
 have A0:AtS W3 Y st (.slice av l.length cv):=by rw [hW3,← hY];exact AtS.new w2 st _ _
 have b3:Below w2.heap.size w2 W3:=by rw [hW3];exact qBl
 rw [hY,← hW3];clear hW3;replace F0:=F0.below b3;replace o1:=o1.below b3;replace bw2:=bw2.trans (b3.mono bw2.size);rw [hY] at hB1 hoY;clear b3 b0 hY w2;obtain ⟨s0,s1,s2,-,-⟩:=F0.s;obtain ⟨d0,d1,d2,d3,d4,d5,d6,d7⟩:=F0.d;simp only at d1 d2 d3 d4 d5 d6 d7;have k1:=cell_regrown s1;have k2:=cell_regrown s2;have e1:=cell_regrown d1;have e2:=cell_regrown d2;have e3:=cell_regrown d3;have e4:=cell_regrown d4;have e5:=cell_regrown d5;have e6:=cell_regrown d6;have e7:=cell_regrown d7;have i1:=zaad (w:=W3) (zaaw ⟨5,ix,⟨x1,x2,x3,x4,x5⟩⟩);simp only [Dd.val,hfit] at i1;refine wp_region_quiet_below (by kernel_rfl) (by kernel_rfl) ?_
 repeat (first|go_big_quiet_step (first|with_reducible exact i1 _ _)|quiet_step (first|with_reducible exact i1 _ _))
 refine wpQuiet_nil ?_;intro _ hw';obtain ⟨⟨dq,osq⟩,hw''⟩:=hw';have hgr:Below W3.heap.size W3 (grow (redrawn W3 dq) osq):=below_regrown W3 dq osq;subst hw'';generalize grow (redrawn W3 dq) osq=W4 at hgr ⊢;clear k1 k2 e1 e2 e3 e4 e5 e6 e7 i1 s0 s1 s2 d0 d1 d2 d3 d4 d5 d6 d7;replace F0:=F0.below hgr;replace A0:=A0.below hgr;replace o1:=o1.below hgr;replace bw2:=bw2.trans (hgr.mono bw2.size);clear hgr W3;obtain ⟨s0,s1,s2,-,-⟩:=F0.s;obtain ⟨d0,d1,d2,d3,d4,d5,d6,d7⟩:=F0.d;simp only at d1 d2 d3 d4 d5 d6 d7;obtain ⟨a0,a1,a2,a3,a4⟩:=id A0;go_wp2_with fail;obtain ⟨W5,hW5⟩:=qM (W4.setCell ⟨Y,0,none⟩ (.int .i64 (st - 1)));rw [← hW5]
 have hYs:(Value.slice av l.length cv).ownBlock≠some Y:=fun h=>absurd (hoY _ h) (Nat.lt_irrefl _)
 have b5:Below w1.heap.size W4 W5:=by rw [hW5];exact (Below.refl _ _).setCell (by show _≤Y;omega) _
 have F5:=F0.belowB b5 hX1
 have A5:AtS W5 Y (st - 1) (.slice av l.length cv):=by rw [hW5];exact A0.set0 _
 have o5:OwnL W5 w1.heap.size (.slice av l.length cv) l:=by rw [hW5];exact o1.setOther (p:=⟨Y,0,none⟩) hYs _
 have bw5:=bw2.trans (b5.mono hBw);clear hW5 b5 F0 A0 o1 bw2 a0 a1 a2 a3 a4 s0 s1 s2 d0 d1 d2 d3 d4 d5 d6 d7 W4;have hlz:=hl;have hlz:l.length≤1048576:=hlz;obtain ⟨s0,s1,s2,-,-⟩:=F5.s;have HT:=Lib.hid ht;clear ht;refine (zaab _ _ (st - 1) l _ hlz (by obtain ⟨_,_,e,_,_,hr⟩:=o5.rd;cases e;exact hr)).mono ?_;rintro e w6 ⟨rfl,b6⟩;clear s0 s1 s2
 cases hk:svOk ⟨st - 1,l⟩
 · replace F5:=F5.below b6
   replace bw5:=bw5.trans (b6.mono bw5.size);clear b6 o5 A5;obtain ⟨s0,s1,s2,-,-⟩:=F5.s;go_wp2_with fail;refine (zaai _ _ st l _ hl (hs.below bw5)).mono ?_;rintro e w7 ⟨v7,rfl,o7,b7⟩;obtain ⟨a7,c7,rfl⟩:=o7.sl;clear s0 s1 s2;have hX7:=F5.r.lt;have hB7:=bw5.size;replace F5:=F5.below b7;replace bw5:=bw5.trans (b7.mono bw5.size);obtain ⟨r0,r1,r2,r3,r4⟩:=F5.r;clear b7 F5;go_wp2_with fail;have oF:=((o7.setCell (p:=⟨X+1+1,0,none⟩) hX7 (.int .i64 st)).setCell (p:=⟨X+1+1,1,none⟩) hX7 (.slice a7 l.length c7)).mono hB7;have bF:Below w.heap.size w ((w7.setCell ⟨X+1+1,0,none⟩ (.int .i64 st)).setCell ⟨X+1+1,1,none⟩ (.slice a7 l.length c7)):=(bw5.setCell (by show _≤X+1+1;omega) _).setCell (by show _≤X+1+1;omega) _;refine bodyPost_ret (v:=.tuple #[.agg #[.int .i64 st,.slice a7 l.length c7],.bool false]) (by simp [results,Tryz.results50,go_sem,r1,r2]) rfl ?_;rw [zaa2 hv HT.out hk]
   exact ⟨_,rfl,oF,bF⟩
 · replace F5:=F5.below b6
   replace bw5:=bw5.trans (b6.mono bw5.size);replace o5:=o5.below b6;replace A5:=A5.below b6;clear b6;obtain ⟨r0,r1,r2,r3,r4⟩:=F5.r;obtain ⟨a0,a1,a2,a3,a4⟩:=A5;go_wp2_with fail;have oF:=((o5.setCell (p:=⟨X+1+1,0,none⟩) hX1 (.int .i64 (st - 1))).setCell (p:=⟨X+1+1,1,none⟩) hX1 (.slice av l.length cv)).mono hBw;have bF:Below w.heap.size w ((w6.setCell ⟨X+1+1,0,none⟩ (.int .i64 (st - 1))).setCell ⟨X+1+1,1,none⟩ (.slice av l.length cv)):=(bw5.setCell (by show _≤X+1+1;omega) _).setCell (by show _≤X+1+1;omega) _;refine bodyPost_ret (v:=.tuple #[.agg #[.int .i64 (st - 1),.slice av l.length cv],.bool true]) (by simp [results,Tryz.results50,go_sem,r1,r2]) rfl ?_;rw [zaa9 hv HT.out hk]
   exact ⟨_,rfl,oF,bF⟩
theorem zap1 (a:Option Addr) (c:Nat) (st:Int) (l:List Lg) (ix:Int) (g:Lg) (w:World) (hl:l.length≤1048576) (hs:Legs w a l) (hv:svOk ⟨st,l⟩=true) (i:Nat) (hix:ix=(i:Int)) (hi:i≤l.length) (hl9:l.length≤9) (hfit:ddFits ⟨0,ix,g⟩=true) (hidx:isIdx ix ((l.length:Int)+1)=true) (ht:ddTry ⟨st,l⟩ ⟨0,ix,g⟩=some ⟨st,l.take i ++ g :: l.drop i⟩) :
 Calls Tryz.prog 50 #[.agg #[.int .i64 st,.slice a l.length c],(⟨0,ix,g⟩:Dd).val] w (SvOut (ddDo ⟨st,l⟩ ⟨0,ix,g⟩) w):=by
 subst hix;obtain ⟨x1,x2,x3,x4,x5⟩:=g
 show Calls Tryz.prog 50 #[.agg #[.int .i64 st,.slice a l.length c],.agg #[.int .i64 0,.int .i64 (i:Int),.int .i64 x1,.int .i64 x2,.int .i64 x3,.int .i64 x4,.int .i64 x5]] w _
 obtain ⟨zs,hzs⟩:=qM (l.take i ++ ⟨x1,x2,x3,x4,x5⟩ :: l.drop i);rw [← hzs] at ht;have HZ:=Lib.hid hzs
 have hlz:zs.length≤1048576:=by rw [hzs];simp;omega
 clear hzs
 go_enter Tryz.func50,Tryz.ntmps50
 go_wp2_with fail;obtain ⟨X,hX⟩:=qN (w.heap.size);obtain ⟨W0,hW0⟩:=qM (((w.alloc (.cells #[.int .i64 st,.slice a l.length c] 25)).alloc (.cells #[.int .i64 0,.int .i64 (i:Int),.int .i64 x1,.int .i64 x2,.int .i64 x3,.int .i64 x4,.int .i64 x5] 82)).alloc (.cells #[.int .i64 0,.slice none 0 0] 25))
 have F0:Fr W0 X st (.slice a l.length c) ⟨0,(i:Int),⟨x1,x2,x3,x4,x5⟩⟩:=by rw [hW0,← hX];exact Fr.new w st _ ⟨0,(i:Int),⟨x1,x2,x3,x4,x5⟩⟩ _ _ _
 have b0:Below w.heap.size w W0:=by rw [hW0];exact qBl
 rw [hX,← hW0];clear hW0;refine (zaab _ _ st l _ hl (hs.below b0)).mono ?_;rintro e w1 ⟨rfl,b1⟩;rw [hv];replace F0:=F0.below b1;replace b0:=b0.trans (b1.mono b0.size);clear b1 W0;obtain ⟨s0,s1,s2,-,-⟩:=F0.s;go_wp2_with fail;clear s0 s1 s2;have hX1:=F0.r.lt;refine (zaai _ _ st l _ hl (hs.below b0)).mono ?_;rintro e w2 ⟨v,rfl,o1,b1⟩;obtain ⟨av,cv,rfl⟩:=o1.sl;replace F0:=F0.below b1;have bw2:=b0.trans (b1.mono b0.size);have hB1:w1.heap.size≤w2.heap.size:=b1.size;have hBw:=b0.size
 have hoY:∀ k,(Value.slice av l.length cv).ownBlock=some k→k<w2.heap.size:=fun k hk=>(o1.lt hk).2
 clear b1;go_wp2_with fail;obtain ⟨Y,hY⟩:=qN (w2.heap.size);obtain ⟨W3,hW3⟩:=qM (w2.alloc (.cells #[.int .i64 st,.slice av l.length cv] 25))
 have A0:AtS W3 Y st (.slice av l.length cv):=by rw [hW3,← hY];exact AtS.new w2 st _ _
 have b3:Below w2.heap.size w2 W3:=by rw [hW3];exact qBl
 rw [hY,← hW3];clear hW3;replace F0:=F0.below b3;replace o1:=o1.below b3;replace bw2:=bw2.trans (b3.mono bw2.size);rw [hY] at hB1 hoY;clear b3 b0 hY w2;obtain ⟨s0,s1,s2,-,-⟩:=F0.s;obtain ⟨d0,d1,d2,d3,d4,d5,d6,d7⟩:=F0.d;simp only at d1 d2 d3 d4 d5 d6 d7;have k1:=cell_regrown s1;have k2:=cell_regrown s2;have e1:=cell_regrown d1;have e2:=cell_regrown d2;have e3:=cell_regrown d3;have e4:=cell_regrown d4;have e5:=cell_regrown d5;have e6:=cell_regrown d6;have e7:=cell_regrown d7;have i1:=zaad (w:=W3) (zaaw ⟨0,(i:Int),⟨x1,x2,x3,x4,x5⟩⟩);simp only [Dd.val,hfit] at i1
 have i2:=zaad (w:=W3) (fun w=>zabh a l.length c st 0 w hl)
 have i3:=zaad (w:=W3) (fun w=>(zaal (i:Int) ((l.length:Int)+1) w).mono fun _ _ ⟨h1,h2⟩=>⟨h1,h2▸Below.refl _ _⟩)
 rw [hidx] at i3;simp only [if_true] at i2;refine wp_region_quiet_below (by kernel_rfl) (by kernel_rfl) ?_
 repeat (first|go_big_quiet_step (first|with_reducible exact i1 _ _|with_reducible exact i2 _ _|with_reducible exact i3 _ _)|quiet_step (first|with_reducible exact i1 _ _|with_reducible exact i2 _ _|with_reducible exact i3 _ _))
 refine wpQuiet_nil ?_;intro _ hw';obtain ⟨⟨dq,osq⟩,hw''⟩:=hw';have hgr:Below W3.heap.size W3 (grow (redrawn W3 dq) osq):=below_regrown W3 dq osq;subst hw'';generalize grow (redrawn W3 dq) osq=W4 at hgr ⊢;clear k1 k2 e1 e2 e3 e4 e5 e6 e7 i1 i2 i3 s0 s1 s2 d0 d1 d2 d3 d4 d5 d6 d7;replace F0:=F0.below hgr;replace A0:=A0.below hgr;replace o1:=o1.below hgr;replace bw2:=bw2.trans (hgr.mono bw2.size);clear hgr W3;obtain ⟨s0,s1,s2,-,-⟩:=F0.s;obtain ⟨d0,d1,d2,d3,d4,d5,d6,d7⟩:=F0.d;simp only at d1 d2 d3 d4 d5 d6 d7;obtain ⟨a0,a1,a2,a3,a4⟩:=id A0;go_wp2_with fail;obtain ⟨Z,hZ⟩:=qN (W4.heap.size);have hYZ:Y<Z:=qO;have gN:W4.grownBy (W4.alloc (.cells #[.int .i64 x1,.int .i64 x2,.int .i64 x3,.int .i64 x4,.int .i64 x5] 75)) none:=World.grownBy_alloc _ _ _;have bN:Below W4.heap.size W4 (W4.alloc (.cells #[.int .i64 x1,.int .i64 x2,.int .i64 x3,.int .i64 x4,.int .i64 x5] 75)):=qBl
 have hrowx:KRow legK 75 (W4.alloc (.cells #[.int .i64 x1,.int .i64 x2,.int .i64 x3,.int .i64 x4,.int .i64 x5] 75)) Z 1 (fun _=>some ⟨x1,x2,x3,x4,x5⟩):=by
  rw [← hZ]
  refine KRow.new W4 _ rfl fun k x hk hx r u hr=>?_
  have hk0:k=0:=qO;subst hk0
  cases hx
  rw [Nat.zero_mul,Nat.zero_add]
  simpa [legK] using hr
 obtain ⟨WN,hWN⟩:=qM (W4.alloc (.cells #[.int .i64 x1,.int .i64 x2,.int .i64 x3,.int .i64 x4,.int .i64 x5] 75));rw [hZ,← hWN];rw [← hWN] at bN hrowx gN;replace F0:=F0.below bN;replace A0:=A0.below bN;replace o1:=o1.below bN;replace bw2:=bw2.trans (bN.mono bw2.size);have hsz:=bN.size;clear bN gN hWN s0 s1 s2 d0 d1 d2 d3 d4 d5 d6 d7 a0 a1 a2 a3 a4
 refine (zanz w1.heap.size av cv l ⟨x1,x2,x3,x4,x5⟩ i Z WN o1 hi hl hrowx (fun g o e=>by subst e;have:=hoY g rfl;omega) qO).mono ?_
 rintro e w5 ⟨az,cz,rfl,o5,g5,n5⟩;rw [← HZ.out] at o5 n5;rw [← HZ.out]
 have hYo:some Y≠(Value.slice av 0 0).ownBlock:=fun h=>absurd (hoY Y (by rw [zac9 _ _ _ 0 0];exact h.symm)) (Nat.lt_irrefl _)
 have hYn:(Value.slice az zs.length cz).ownBlock≠some Y:=fun h=>by
  rcases n5 Y h with h|h
  · exact hYo h.symm
  · have:=A0.lt;omega
 have A1:=A0.kept g5 hYo
 have b4:Below w1.heap.size WN w5:=Below.grown (Below.refl _ _) g5 qO (fun k hk=>(o1.lt (by rw [zac9 _ _ _ 0 0];exact hk)).1)
 have F1:=F0.belowB b4 hX1;have bw4:=bw2.trans (b4.mono hBw);clear F0 A0 o1 bw2 b4 g5 n5;obtain ⟨a0,a1,a2,a3,a4⟩:=id A1;go_wp2_with fail;obtain ⟨W5,hW5⟩:=qM (w5.setCell ⟨Y,1,none⟩ (.slice az zs.length cz));rw [← hW5]
 have b5:Below w1.heap.size w5 W5:=by rw [hW5];exact (Below.refl _ _).setCell (by show _≤Y;omega) _
 have F5:=F1.belowB b5 hX1
 have A5:AtS W5 Y st (.slice az zs.length cz):=by rw [hW5];exact A1.set1 _
 replace o5:OwnL W5 w1.heap.size (.slice az zs.length cz) zs:=by rw [hW5];exact o5.setOther (p:=⟨Y,1,none⟩) hYn _
 have bw5:=bw4.trans (b5.mono hBw);clear hW5 b5 F1 A1 bw4 a0 a1 a2 a3 a4;have hlz:zs.length≤1048576:=hlz;obtain ⟨s0,s1,s2,-,-⟩:=F5.s;have HT:=Lib.hid ht;clear ht;refine (zaab _ _ (st) zs _ hlz (by obtain ⟨_,_,e,_,_,hr⟩:=o5.rd;cases e;exact hr)).mono ?_;rintro e w6 ⟨rfl,b6⟩;clear s0 s1 s2
 cases hk:svOk ⟨st,zs⟩
 · replace F5:=F5.below b6
   replace bw5:=bw5.trans (b6.mono bw5.size);clear b6 o5 A5;obtain ⟨s0,s1,s2,-,-⟩:=F5.s;go_wp2_with fail;refine (zaai _ _ st l _ hl (hs.below bw5)).mono ?_;rintro e w7 ⟨v7,rfl,o7,b7⟩;obtain ⟨a7,c7,rfl⟩:=o7.sl;clear s0 s1 s2;have hX7:=F5.r.lt;have hB7:=bw5.size;replace F5:=F5.below b7;replace bw5:=bw5.trans (b7.mono bw5.size);obtain ⟨r0,r1,r2,r3,r4⟩:=F5.r;clear b7 F5;go_wp2_with fail;have oF:=((o7.setCell (p:=⟨X+1+1,0,none⟩) hX7 (.int .i64 st)).setCell (p:=⟨X+1+1,1,none⟩) hX7 (.slice a7 l.length c7)).mono hB7;have bF:Below w.heap.size w ((w7.setCell ⟨X+1+1,0,none⟩ (.int .i64 st)).setCell ⟨X+1+1,1,none⟩ (.slice a7 l.length c7)):=(bw5.setCell (by show _≤X+1+1;omega) _).setCell (by show _≤X+1+1;omega) _;refine bodyPost_ret (v:=.tuple #[.agg #[.int .i64 st,.slice a7 l.length c7],.bool false]) (by simp [results,Tryz.results50,go_sem,r1,r2]) rfl ?_;rw [zaa2 hv HT.out hk]
   exact ⟨_,rfl,oF,bF⟩
 · replace F5:=F5.below b6
   replace bw5:=bw5.trans (b6.mono bw5.size);replace o5:=o5.below b6;replace A5:=A5.below b6;clear b6;obtain ⟨r0,r1,r2,r3,r4⟩:=F5.r;obtain ⟨a0,a1,a2,a3,a4⟩:=A5;go_wp2_with fail;have oF:=((o5.setCell (p:=⟨X+1+1,0,none⟩) hX1 (.int .i64 (st))).setCell (p:=⟨X+1+1,1,none⟩) hX1 (.slice az zs.length cz)).mono hBw;have bF:Below w.heap.size w ((w6.setCell ⟨X+1+1,0,none⟩ (.int .i64 (st))).setCell ⟨X+1+1,1,none⟩ (.slice az zs.length cz)):=(bw5.setCell (by show _≤X+1+1;omega) _).setCell (by show _≤X+1+1;omega) _;refine bodyPost_ret (v:=.tuple #[.agg #[.int .i64 (st),.slice az zs.length cz],.bool true]) (by simp [results,Tryz.results50,go_sem,r1,r2]) rfl ?_;rw [zaa9 hv HT.out hk]
   exact ⟨_,rfl,oF,bF⟩
theorem zap2 (a:Option Addr) (c:Nat) (st:Int) (l:List Lg) (ix:Int) (g:Lg) (w:World) (hl:l.length≤1048576) (hs:Legs w a l) (hv:svOk ⟨st,l⟩=true) (i:Nat) (hix:ix=(i:Int)) (hi:i<l.length) (hl9:l.length≤9) (hfit:ddFits ⟨1,ix,g⟩=true) (hidx:isIdx ix ((l.length:Int))=true) (ht:ddTry ⟨st,l⟩ ⟨1,ix,g⟩=some ⟨st,l.take i ++ l.drop (i+1)⟩) :
 Calls Tryz.prog 50 #[.agg #[.int .i64 st,.slice a l.length c],(⟨1,ix,g⟩:Dd).val] w (SvOut (ddDo ⟨st,l⟩ ⟨1,ix,g⟩) w):=by
 subst hix;obtain ⟨x1,x2,x3,x4,x5⟩:=g
 show Calls Tryz.prog 50 #[.agg #[.int .i64 st,.slice a l.length c],.agg #[.int .i64 1,.int .i64 (i:Int),.int .i64 x1,.int .i64 x2,.int .i64 x3,.int .i64 x4,.int .i64 x5]] w _
 obtain ⟨zs,hzs⟩:=qM (l.take i ++ l.drop (i+1));rw [← hzs] at ht;have HZ:=Lib.hid hzs
 have hlz:zs.length≤1048576:=by rw [hzs];simp;omega
 clear hzs
 go_enter Tryz.func50,Tryz.ntmps50
 go_wp2_with fail;obtain ⟨X,hX⟩:=qN (w.heap.size);obtain ⟨W0,hW0⟩:=qM (((w.alloc (.cells #[.int .i64 st,.slice a l.length c] 25)).alloc (.cells #[.int .i64 1,.int .i64 (i:Int),.int .i64 x1,.int .i64 x2,.int .i64 x3,.int .i64 x4,.int .i64 x5] 82)).alloc (.cells #[.int .i64 0,.slice none 0 0] 25))
 have F0:Fr W0 X st (.slice a l.length c) ⟨1,(i:Int),⟨x1,x2,x3,x4,x5⟩⟩:=by rw [hW0,← hX];exact Fr.new w st _ ⟨1,(i:Int),⟨x1,x2,x3,x4,x5⟩⟩ _ _ _
 have b0:Below w.heap.size w W0:=by rw [hW0];exact qBl
 rw [hX,← hW0];clear hW0;refine (zaab _ _ st l _ hl (hs.below b0)).mono ?_;rintro e w1 ⟨rfl,b1⟩;rw [hv];replace F0:=F0.below b1;replace b0:=b0.trans (b1.mono b0.size);clear b1 W0;obtain ⟨s0,s1,s2,-,-⟩:=F0.s;go_wp2_with fail;clear s0 s1 s2;have hX1:=F0.r.lt;refine (zaai _ _ st l _ hl (hs.below b0)).mono ?_;rintro e w2 ⟨v,rfl,o1,b1⟩;obtain ⟨av,cv,rfl⟩:=o1.sl;replace F0:=F0.below b1;have bw2:=b0.trans (b1.mono b0.size);have hB1:w1.heap.size≤w2.heap.size:=b1.size;have hBw:=b0.size
 have hoY:∀ k,(Value.slice av l.length cv).ownBlock=some k→k<w2.heap.size:=fun k hk=>(o1.lt hk).2
 clear b1;go_wp2_with fail;obtain ⟨Y,hY⟩:=qN (w2.heap.size);obtain ⟨W3,hW3⟩:=qM (w2.alloc (.cells #[.int .i64 st,.slice av l.length cv] 25))
 have A0:AtS W3 Y st (.slice av l.length cv):=by rw [hW3,← hY];exact AtS.new w2 st _ _
 have b3:Below w2.heap.size w2 W3:=by rw [hW3];exact qBl
 rw [hY,← hW3];clear hW3;replace F0:=F0.below b3;replace o1:=o1.below b3;replace bw2:=bw2.trans (b3.mono bw2.size);rw [hY] at hB1 hoY;clear b3 b0 hY w2;obtain ⟨s0,s1,s2,-,-⟩:=F0.s;obtain ⟨d0,d1,d2,d3,d4,d5,d6,d7⟩:=F0.d;simp only at d1 d2 d3 d4 d5 d6 d7;have k1:=cell_regrown s1;have k2:=cell_regrown s2;have e1:=cell_regrown d1;have e2:=cell_regrown d2;have e3:=cell_regrown d3;have e4:=cell_regrown d4;have e5:=cell_regrown d5;have e6:=cell_regrown d6;have e7:=cell_regrown d7;have i1:=zaad (w:=W3) (zaaw ⟨1,(i:Int),⟨x1,x2,x3,x4,x5⟩⟩);simp only [Dd.val,hfit] at i1
 have i2:=zaad (w:=W3) (fun w=>zabh a l.length c st 1 w hl)
 have i3:=zaad (w:=W3) (fun w=>(zaal (i:Int) ((l.length:Int)) w).mono fun _ _ ⟨h1,h2⟩=>⟨h1,h2▸Below.refl _ _⟩)
 rw [hidx] at i3;simp only [Int.reduceEq,if_false] at i2;refine wp_region_quiet_below (by kernel_rfl) (by kernel_rfl) ?_
 repeat (first|go_big_quiet_step (first|with_reducible exact i1 _ _|with_reducible exact i2 _ _|with_reducible exact i3 _ _)|quiet_step (first|with_reducible exact i1 _ _|with_reducible exact i2 _ _|with_reducible exact i3 _ _))
 refine wpQuiet_nil ?_;intro _ hw';obtain ⟨⟨dq,osq⟩,hw''⟩:=hw';have hgr:Below W3.heap.size W3 (grow (redrawn W3 dq) osq):=below_regrown W3 dq osq;subst hw'';generalize grow (redrawn W3 dq) osq=W4 at hgr ⊢;clear k1 k2 e1 e2 e3 e4 e5 e6 e7 i1 i2 i3 s0 s1 s2 d0 d1 d2 d3 d4 d5 d6 d7;replace F0:=F0.below hgr;replace A0:=A0.below hgr;replace o1:=o1.below hgr;replace bw2:=bw2.trans (hgr.mono bw2.size);clear hgr W3;obtain ⟨s0,s1,s2,-,-⟩:=F0.s;obtain ⟨d0,d1,d2,d3,d4,d5,d6,d7⟩:=F0.d;simp only at d1 d2 d3 d4 d5 d6 d7;obtain ⟨a0,a1,a2,a3,a4⟩:=id A0;have hiw:IntKind.i64.wrap ((i:Int)+1)=(i:Int)+1:=IntWalk.i64_in _ qO;go_wp2_with fail;obtain ⟨WN,hWN⟩:=qM (W4);clear hiw s0 s1 s2 d0 d1 d2 d3 d4 d5 d6 d7 a0 a1 a2 a3 a4;subst hWN
 have hsz:w1.heap.size≤WN.heap.size:=by have:=A0.lt;omega
 refine (zan1 w1.heap.size av cv l i WN o1 hi hl).mono ?_;rintro e w5 ⟨az,cz,rfl,o5,g5,n5⟩;rw [← HZ.out] at o5 n5;rw [← HZ.out]
 have hYo:some Y≠(Value.slice av 0 0).ownBlock:=fun h=>absurd (hoY Y (by rw [zac9 _ _ _ 0 0];exact h.symm)) (Nat.lt_irrefl _)
 have hYn:(Value.slice az zs.length cz).ownBlock≠some Y:=fun h=>by
  rcases n5 Y h with h|h
  · exact hYo h.symm
  · have:=A0.lt;omega
 have A1:=A0.kept g5 hYo
 have b4:Below w1.heap.size WN w5:=Below.grown (Below.refl _ _) g5 qO (fun k hk=>(o1.lt (by rw [zac9 _ _ _ 0 0];exact hk)).1)
 have F1:=F0.belowB b4 hX1;have bw4:=bw2.trans (b4.mono hBw);clear F0 A0 o1 bw2 b4 g5 n5;obtain ⟨a0,a1,a2,a3,a4⟩:=id A1;go_wp2_with fail;obtain ⟨W5,hW5⟩:=qM (w5.setCell ⟨Y,1,none⟩ (.slice az zs.length cz));rw [← hW5]
 have b5:Below w1.heap.size w5 W5:=by rw [hW5];exact (Below.refl _ _).setCell (by show _≤Y;omega) _
 have F5:=F1.belowB b5 hX1
 have A5:AtS W5 Y st (.slice az zs.length cz):=by rw [hW5];exact A1.set1 _
 replace o5:OwnL W5 w1.heap.size (.slice az zs.length cz) zs:=by rw [hW5];exact o5.setOther (p:=⟨Y,1,none⟩) hYn _
 have bw5:=bw4.trans (b5.mono hBw);clear hW5 b5 F1 A1 bw4 a0 a1 a2 a3 a4;have hlz:zs.length≤1048576:=hlz;obtain ⟨s0,s1,s2,-,-⟩:=F5.s;have HT:=Lib.hid ht;clear ht;refine (zaab _ _ (st) zs _ hlz (by obtain ⟨_,_,e,_,_,hr⟩:=o5.rd;cases e;exact hr)).mono ?_;rintro e w6 ⟨rfl,b6⟩;clear s0 s1 s2
 cases hk:svOk ⟨st,zs⟩
 · replace F5:=F5.below b6
   replace bw5:=bw5.trans (b6.mono bw5.size);clear b6 o5 A5;obtain ⟨s0,s1,s2,-,-⟩:=F5.s;go_wp2_with fail;refine (zaai _ _ st l _ hl (hs.below bw5)).mono ?_;rintro e w7 ⟨v7,rfl,o7,b7⟩;obtain ⟨a7,c7,rfl⟩:=o7.sl;clear s0 s1 s2;have hX7:=F5.r.lt;have hB7:=bw5.size;replace F5:=F5.below b7;replace bw5:=bw5.trans (b7.mono bw5.size);obtain ⟨r0,r1,r2,r3,r4⟩:=F5.r;clear b7 F5;go_wp2_with fail;have oF:=((o7.setCell (p:=⟨X+1+1,0,none⟩) hX7 (.int .i64 st)).setCell (p:=⟨X+1+1,1,none⟩) hX7 (.slice a7 l.length c7)).mono hB7;have bF:Below w.heap.size w ((w7.setCell ⟨X+1+1,0,none⟩ (.int .i64 st)).setCell ⟨X+1+1,1,none⟩ (.slice a7 l.length c7)):=(bw5.setCell (by show _≤X+1+1;omega) _).setCell (by show _≤X+1+1;omega) _;refine bodyPost_ret (v:=.tuple #[.agg #[.int .i64 st,.slice a7 l.length c7],.bool false]) (by simp [results,Tryz.results50,go_sem,r1,r2]) rfl ?_;rw [zaa2 hv HT.out hk]
   exact ⟨_,rfl,oF,bF⟩
 · replace F5:=F5.below b6
   replace bw5:=bw5.trans (b6.mono bw5.size);replace o5:=o5.below b6;replace A5:=A5.below b6;clear b6;obtain ⟨r0,r1,r2,r3,r4⟩:=F5.r;obtain ⟨a0,a1,a2,a3,a4⟩:=A5;go_wp2_with fail;have oF:=((o5.setCell (p:=⟨X+1+1,0,none⟩) hX1 (.int .i64 (st))).setCell (p:=⟨X+1+1,1,none⟩) hX1 (.slice az zs.length cz)).mono hBw;have bF:Below w.heap.size w ((w6.setCell ⟨X+1+1,0,none⟩ (.int .i64 (st))).setCell ⟨X+1+1,1,none⟩ (.slice az zs.length cz)):=(bw5.setCell (by show _≤X+1+1;omega) _).setCell (by show _≤X+1+1;omega) _;refine bodyPost_ret (v:=.tuple #[.agg #[.int .i64 (st),.slice az zs.length cz],.bool true]) (by simp [results,Tryz.results50,go_sem,r1,r2]) rfl ?_;rw [zaa9 hv HT.out hk]
   exact ⟨_,rfl,oF,bF⟩
theorem zarm (a:Option Addr) (c:Nat) (st:Int) (l:List Lg) (ix:Int) (g:Lg) (w:World) (hl:l.length≤1048576) (hs:Legs w a l) (hv:svOk ⟨st,l⟩=true) (i:Nat) (hix:ix=(i:Int)) (hi:i<l.length) (_hl9:l.length≤9) (hfit:ddFits ⟨3,ix,g⟩=true) (hidx:isIdx ix (l.length:Int)=true) (heq:g=nth l i) (ht:ddTry ⟨st,l⟩ ⟨3,ix,g⟩=none) :
 Calls Tryz.prog 50 #[.agg #[.int .i64 st,.slice a l.length c],(⟨3,ix,g⟩:Dd).val] w (SvOut (ddDo ⟨st,l⟩ ⟨3,ix,g⟩) w):=by
 rw [zab7 hv ht];have heq2:=zacx g (nth l i);rw [decide_eq_true heq] at heq2;clear heq;subst hix;obtain ⟨x1,x2,x3,x4,x5⟩:=g
 show Calls Tryz.prog 50 #[.agg #[.int .i64 st,.slice a l.length c],.agg #[.int .i64 3,.int .i64 (i:Int),.int .i64 x1,.int .i64 x2,.int .i64 x3,.int .i64 x4,.int .i64 x5]] w _
 simp only at heq2
 go_enter Tryz.func50,Tryz.ntmps50
 go_wp2_with fail;obtain ⟨X,hX⟩:=qN (w.heap.size);obtain ⟨W0,hW0⟩:=qM (((w.alloc (.cells #[.int .i64 st,.slice a l.length c] 25)).alloc (.cells #[.int .i64 3,.int .i64 (i:Int),.int .i64 x1,.int .i64 x2,.int .i64 x3,.int .i64 x4,.int .i64 x5] 82)).alloc (.cells #[.int .i64 0,.slice none 0 0] 25))
 have F0:Fr W0 X st (.slice a l.length c) ⟨3,(i:Int),⟨x1,x2,x3,x4,x5⟩⟩:=by rw [hW0,← hX];exact Fr.new w st _ ⟨3,(i:Int),⟨x1,x2,x3,x4,x5⟩⟩ _ _ _
 have b0:Below w.heap.size w W0:=by rw [hW0];exact qBl
 rw [hX,← hW0];clear hW0;refine (zaab _ _ st l _ hl (hs.below b0)).mono ?_;rintro e w1 ⟨rfl,b1⟩;rw [hv];replace F0:=F0.below b1;replace b0:=b0.trans (b1.mono b0.size);clear b1 W0;obtain ⟨s0,s1,s2,-,-⟩:=F0.s;go_wp2_with fail;clear s0 s1 s2;have hX1:=F0.r.lt;refine (zaai _ _ st l _ hl (hs.below b0)).mono ?_;rintro e w2 ⟨v,rfl,o1,b1⟩;obtain ⟨av,cv,rfl⟩:=o1.sl;replace F0:=F0.below b1;have bw2:=b0.trans (b1.mono b0.size);have hB1:w1.heap.size≤w2.heap.size:=b1.size;have hBw:=b0.size
 have hoY:∀ k,(Value.slice av l.length cv).ownBlock=some k→k<w2.heap.size:=fun k hk=>(o1.lt hk).2
 clear b1;go_wp2_with fail;obtain ⟨Y,hY⟩:=qN (w2.heap.size);obtain ⟨W3,hW3⟩:=qM (w2.alloc (.cells #[.int .i64 st,.slice av l.length cv] 25))
 have A0:AtS W3 Y st (.slice av l.length cv):=by rw [hW3,← hY];exact AtS.new w2 st _ _
 have b3:Below w2.heap.size w2 W3:=by rw [hW3];exact qBl
 rw [hY,← hW3];clear hW3;replace F0:=F0.below b3;replace o1:=o1.below b3;replace bw2:=bw2.trans (b3.mono bw2.size);rw [hY] at hB1 hoY;clear b3 b0 hY w2;obtain ⟨s0,s1,s2,-,-⟩:=F0.s;obtain ⟨d0,d1,d2,d3,d4,d5,d6,d7⟩:=F0.d;simp only at d1 d2 d3 d4 d5 d6 d7;have k1:=cell_regrown s1;have k2:=cell_regrown s2;have e1:=cell_regrown d1;have e2:=cell_regrown d2;have e3:=cell_regrown d3;have e4:=cell_regrown d4;have e5:=cell_regrown d5;have e6:=cell_regrown d6;have e7:=cell_regrown d7;have i1:=zaad (w:=W3) (zaaw ⟨3,(i:Int),⟨x1,x2,x3,x4,x5⟩⟩);simp only [Dd.val,hfit] at i1
 have i2:=zaad (w:=W3) (fun w=>zabh a l.length c st 3 w hl)
 have i3:=zaad (w:=W3) (fun w=>(zaal (i:Int) ((l.length:Int)) w).mono fun _ _ ⟨h1,h2⟩=>⟨h1,h2▸Below.refl _ _⟩)
 rw [hidx] at i3;simp only [Int.reduceEq,if_false] at i2;refine wp_region_quiet_below (by kernel_rfl) (by kernel_rfl) ?_
 repeat (first|go_big_quiet_step (first|with_reducible exact i1 _ _|with_reducible exact i2 _ _|with_reducible exact i3 _ _)|quiet_step (first|with_reducible exact i1 _ _|with_reducible exact i2 _ _|with_reducible exact i3 _ _))
 refine wpQuiet_nil ?_;intro _ hw';obtain ⟨⟨dq,osq⟩,hw''⟩:=hw';have hgr:Below W3.heap.size W3 (grow (redrawn W3 dq) osq):=below_regrown W3 dq osq;subst hw'';generalize grow (redrawn W3 dq) osq=W4 at hgr ⊢;clear k1 k2 e1 e2 e3 e4 e5 e6 e7 i1 i2 i3 s0 s1 s2 d0 d1 d2 d3 d4 d5 d6 d7;replace F0:=F0.below hgr;replace A0:=A0.below hgr;replace o1:=o1.below hgr;replace bw2:=bw2.trans (hgr.mono bw2.size);clear hgr W3;obtain ⟨s0,s1,s2,-,-⟩:=F0.s;obtain ⟨d0,d1,d2,d3,d4,d5,d6,d7⟩:=F0.d;simp only at d1 d2 d3 d4 d5 d6 d7;obtain ⟨r0,r1,r2,r3,r4⟩:=F0.r;obtain ⟨a0,a1,a2,a3,a4⟩:=A0;obtain ⟨bl,off,hae,hbl,m0,m1,m2,m3,m4⟩:=Legs.at (hs.below bw2) hi
 cases hae
 have hii:(i:Int)<(l.length:Int):=qO;have hE:=zafy x1 x2 x3 x4 x5 (nth l i).frm (nth l i).to (nth l i).east (nth l i).north (nth l i).up;rw [heq2] at hE;go_wp2_with fail
 go_quiet (fail)
 go_wp2_with fail
 have bq:∀ k,Below w.heap.size w (W4.drewN k):=fun k=>below_drewN bw2 k
 have oq:∀ k,OwnL (W4.drewN k) w1.heap.size (.slice av l.length cv) l:=fun k=>o1
 refine bodyPost_ret (v:=.tuple #[.agg #[.int .i64 st,.slice av l.length cv],.bool false]) (by simp [results,Tryz.results50,go_sem,r1,r2]) rfl ⟨_,rfl,(((oq _).setCell (p:=⟨X+1+1,0,none⟩) hX1 (.int .i64 st)).setCell (p:=⟨X+1+1,1,none⟩) hX1 (.slice av l.length cv)).mono hBw,((bq _).setCell (by show _≤X+1+1;omega) _).setCell (by show _≤X+1+1;omega) _⟩
theorem zatd (a:Option Addr) (c:Nat) (st:Int) (l:List Lg) (ix:Int) (g:Lg) (w:World) (hl:l.length≤1048576) (hs:Legs w a l) (hv:svOk ⟨st,l⟩=true) (i:Nat) (hix:ix=(i:Int)) (hi:i<l.length) (hl9:l.length≤9) (hfit:ddFits ⟨3,ix,g⟩=true) (hidx:isIdx ix (l.length:Int)=true) (hne:g≠nth l i) (ht:ddTry ⟨st,l⟩ ⟨3,ix,g⟩=some ⟨st,l.set i g⟩) :
 Calls Tryz.prog 50 #[.agg #[.int .i64 st,.slice a l.length c],(⟨3,ix,g⟩:Dd).val] w (SvOut (ddDo ⟨st,l⟩ ⟨3,ix,g⟩) w):=by
 have heq2:=zacx g (nth l i);rw [decide_eq_false hne] at heq2;clear hne;subst hix;obtain ⟨x1,x2,x3,x4,x5⟩:=g
 show Calls Tryz.prog 50 #[.agg #[.int .i64 st,.slice a l.length c],.agg #[.int .i64 3,.int .i64 (i:Int),.int .i64 x1,.int .i64 x2,.int .i64 x3,.int .i64 x4,.int .i64 x5]] w _
 simp only at heq2
 go_enter Tryz.func50,Tryz.ntmps50
 go_wp2_with fail;obtain ⟨X,hX⟩:=qN (w.heap.size);obtain ⟨W0,hW0⟩:=qM (((w.alloc (.cells #[.int .i64 st,.slice a l.length c] 25)).alloc (.cells #[.int .i64 3,.int .i64 (i:Int),.int .i64 x1,.int .i64 x2,.int .i64 x3,.int .i64 x4,.int .i64 x5] 82)).alloc (.cells #[.int .i64 0,.slice none 0 0] 25))
 have F0:Fr W0 X st (.slice a l.length c) ⟨3,(i:Int),⟨x1,x2,x3,x4,x5⟩⟩:=by rw [hW0,← hX];exact Fr.new w st _ ⟨3,(i:Int),⟨x1,x2,x3,x4,x5⟩⟩ _ _ _
 have b0:Below w.heap.size w W0:=by rw [hW0];exact qBl
 rw [hX,← hW0];clear hW0;refine (zaab _ _ st l _ hl (hs.below b0)).mono ?_;rintro e w1 ⟨rfl,b1⟩;rw [hv];replace F0:=F0.below b1;replace b0:=b0.trans (b1.mono b0.size);clear b1 W0;obtain ⟨s0,s1,s2,-,-⟩:=F0.s;go_wp2_with fail;clear s0 s1 s2;have hX1:=F0.r.lt;refine (zaai _ _ st l _ hl (hs.below b0)).mono ?_;rintro e w2 ⟨v,rfl,o1,b1⟩;obtain ⟨av,cv,rfl⟩:=o1.sl;replace F0:=F0.below b1;have bw2:=b0.trans (b1.mono b0.size);have hB1:w1.heap.size≤w2.heap.size:=b1.size;have hBw:=b0.size
 have hoY:∀ k,(Value.slice av l.length cv).ownBlock=some k→k<w2.heap.size:=fun k hk=>(o1.lt hk).2
 clear b1;go_wp2_with fail;obtain ⟨Y,hY⟩:=qN (w2.heap.size);obtain ⟨W3,hW3⟩:=qM (w2.alloc (.cells #[.int .i64 st,.slice av l.length cv] 25))
 have A0:AtS W3 Y st (.slice av l.length cv):=by rw [hW3,← hY];exact AtS.new w2 st _ _
 have b3:Below w2.heap.size w2 W3:=by rw [hW3];exact qBl
 rw [hY,← hW3];clear hW3;replace F0:=F0.below b3;replace o1:=o1.below b3;replace bw2:=bw2.trans (b3.mono bw2.size);rw [hY] at hB1 hoY;clear b3 b0 hY w2;obtain ⟨s0,s1,s2,-,-⟩:=F0.s;obtain ⟨d0,d1,d2,d3,d4,d5,d6,d7⟩:=F0.d;simp only at d1 d2 d3 d4 d5 d6 d7;have k1:=cell_regrown s1;have k2:=cell_regrown s2;have e1:=cell_regrown d1;have e2:=cell_regrown d2;have e3:=cell_regrown d3;have e4:=cell_regrown d4;have e5:=cell_regrown d5;have e6:=cell_regrown d6;have e7:=cell_regrown d7;have i1:=zaad (w:=W3) (zaaw ⟨3,(i:Int),⟨x1,x2,x3,x4,x5⟩⟩);simp only [Dd.val,hfit] at i1
 have i2:=zaad (w:=W3) (fun w=>zabh a l.length c st 3 w hl)
 have i3:=zaad (w:=W3) (fun w=>(zaal (i:Int) ((l.length:Int)) w).mono fun _ _ ⟨h1,h2⟩=>⟨h1,h2▸Below.refl _ _⟩)
 rw [hidx] at i3;simp only [Int.reduceEq,if_false] at i2;refine wp_region_quiet_below (by kernel_rfl) (by kernel_rfl) ?_
 repeat (first|go_big_quiet_step (first|with_reducible exact i1 _ _|with_reducible exact i2 _ _|with_reducible exact i3 _ _)|quiet_step (first|with_reducible exact i1 _ _|with_reducible exact i2 _ _|with_reducible exact i3 _ _))
 refine wpQuiet_nil ?_;intro _ hw';obtain ⟨⟨dq,osq⟩,hw''⟩:=hw';have hgr:Below W3.heap.size W3 (grow (redrawn W3 dq) osq):=below_regrown W3 dq osq;subst hw'';generalize grow (redrawn W3 dq) osq=W4 at hgr ⊢;clear k1 k2 e1 e2 e3 e4 e5 e6 e7 i1 i2 i3 s0 s1 s2 d0 d1 d2 d3 d4 d5 d6 d7;replace F0:=F0.below hgr;replace A0:=A0.below hgr;replace o1:=o1.below hgr;replace bw2:=bw2.trans (hgr.mono bw2.size);clear hgr W3;obtain ⟨s0,s1,s2,-,-⟩:=F0.s;obtain ⟨d0,d1,d2,d3,d4,d5,d6,d7⟩:=F0.d;simp only at d1 d2 d3 d4 d5 d6 d7;obtain ⟨a0,a1,a2,a3,a4⟩:=id A0;obtain ⟨bl,off,hae,hbl,m0,m1,m2,m3,m4⟩:=Legs.at (hs.below bw2) hi
 cases hae
 have hii:(i:Int)<(l.length:Int):=qO;have hE:=zafy x1 x2 x3 x4 x5 (nth l i).frm (nth l i).to (nth l i).east (nth l i).north (nth l i).up;rw [heq2] at hE;go_wp2_with fail
 go_quiet (fail)
 obtain ⟨V,hV⟩:=qM (W4.drewN nq)
 have bV:Below W4.heap.size W4 V:=by rw [hV];exact below_drewN (Below.refl _ _) _
 rw [← hV];replace F0:=F0.below bV;replace A0:=A0.below bV;replace o1:=o1.below bV;replace bw2:=bw2.trans (bV.mono bw2.size);clear hV bV hE heq2 m0 m1 m2 m3 m4 hbl s0 s1 s2 d0 d1 d2 d3 d4 d5 d6 d7 a0 a1 a2 a3 a4 W4;obtain ⟨G,cap,e,hBG,hn,hm,hrow⟩:=o1.krow qO
 cases e
 have hGY:G<Y:=hoY G rfl;have hput:=hrow.put i [⟨x1,x2,x3,x4,x5⟩]
 have hF:∀ k,k<(l.set i ⟨x1,x2,x3,x4,x5⟩).length→(fun k=>if i≤k∧k<i+[(⟨x1,x2,x3,x4,x5⟩:Lg)].length then some (nth [(⟨x1,x2,x3,x4,x5⟩:Lg)] (k - i)) else (fun k=>if k<l.length then some (nth l k) else none) k) k=some (nth (l.set i ⟨x1,x2,x3,x4,x5⟩) k):=by
  intro k hk;simp only [List.length_set] at hk;simp only [List.length_cons,List.length_nil];rw [zaav hk]
  by_cases e:i=k
  · subst e;rw [if_pos qO,if_pos rfl];simp [nth]
  · rw [if_neg qO,if_pos hk,if_neg e]
 obtain ⟨zs,hzs⟩:=qM (l.set i ⟨x1,x2,x3,x4,x5⟩)
 have hlen:zs.length=l.length:=by rw [hzs];simp
 have hlz:zs.length≤1048576:=by rw [hlen];exact hl
 rw [← hzs] at ht hF;have oP:=hput.own hBG zs qO hm hF;rw [hlen] at oP;have HZ:=Lib.hid hlen;have HO:=Lib.hid oP;have t0:=hrow.at (k:=i) (r:=0) (show i<cv by omega) (by rw [if_pos hi]) rfl;have t1:=hrow.at (k:=i) (r:=1) (show i<cv by omega) (by rw [if_pos hi]) rfl;have t2:=hrow.at (k:=i) (r:=2) (show i<cv by omega) (by rw [if_pos hi]) rfl;have t3:=hrow.at (k:=i) (r:=3) (show i<cv by omega) (by rw [if_pos hi]) rfl;have t4:=hrow.at (k:=i) (r:=4) (show i<cv by omega) (by rw [if_pos hi]) rfl;have hfz:=hrow.free;have tsz:legK.sz=5:=rfl;rw [tsz] at t0 t1 t2 t3 t4;rw [Nat.add_zero] at t0;clear tsz hF oP hlen hzs;obtain ⟨s0,s1,s2,-,-⟩:=F0.s;obtain ⟨d0,d1,d2,d3,d4,d5,d6,d7⟩:=F0.d;simp only at d1 d2 d3 d4 d5 d6 d7;obtain ⟨a0,a1,a2,a3,a4⟩:=id A0;go_wp2_with fail;obtain ⟨W5,hW5⟩:=qM ((((((V.setCell ⟨G,i*5,none⟩ (.int .i64 x1)).setCell ⟨G,i*5+1,none⟩ (.int .i64 x2)).setCell ⟨G,i*5+2,none⟩ (.int .i64 x3)).setCell ⟨G,i*5+3,none⟩ (.int .i64 x4)).setCell ⟨G,i*5+4,none⟩ (.int .i64 x5)));rw [← hW5];have eW5:W5=V.setCells G (i*legK.sz) (legK.flat [⟨x1,x2,x3,x4,x5⟩]):=hW5
 have b5:Below w1.heap.size V W5:=by rw [eW5];exact zabp G hBG _ _ _ (Below.refl _ _)
 have F5:=F0.belowB b5 hX1;have A5:AtS W5 Y st (.slice (some ⟨G,0,none⟩) l.length cv):=A0.block (by rw [eW5];exact (zabx _ _ _).2.2.2.2 Y qO)
 have o5:OwnL W5 w1.heap.size (.slice (some ⟨G,0,none⟩) zs.length cv) zs:=by rw [eW5,HZ.out];exact HO.out
 have bw5:=bw2.trans (b5.mono hBw);rw [← HZ.out] at A5;have HE:(l.length=zs.length):=HZ.out.symm;rw [HE];clear HE;clear hW5 eW5 b5 F0 A0 o1 bw2 hput hrow HO t0 t1 t2 t3 t4 hfz a0 a1 a2 a3 a4 s0 s1 s2 d0 d1 d2 d3 d4 d5 d6 d7 V;have hlz:zs.length≤1048576:=hlz;obtain ⟨s0,s1,s2,-,-⟩:=F5.s;have HT:=Lib.hid ht;clear ht;refine (zaab _ _ (st) zs _ hlz (by obtain ⟨_,_,e,_,_,hr⟩:=o5.rd;cases e;exact hr)).mono ?_;rintro e w6 ⟨rfl,b6⟩;clear s0 s1 s2
 cases hk:svOk ⟨st,zs⟩
 · replace F5:=F5.below b6
   replace bw5:=bw5.trans (b6.mono bw5.size);clear b6 o5 A5;obtain ⟨s0,s1,s2,-,-⟩:=F5.s;go_wp2_with fail;refine (zaai _ _ st l _ hl (hs.below bw5)).mono ?_;rintro e w7 ⟨v7,rfl,o7,b7⟩;obtain ⟨a7,c7,rfl⟩:=o7.sl;clear s0 s1 s2;have hX7:=F5.r.lt;have hB7:=bw5.size;replace F5:=F5.below b7;replace bw5:=bw5.trans (b7.mono bw5.size);obtain ⟨r0,r1,r2,r3,r4⟩:=F5.r;clear b7 F5;go_wp2_with fail;have oF:=((o7.setCell (p:=⟨X+1+1,0,none⟩) hX7 (.int .i64 st)).setCell (p:=⟨X+1+1,1,none⟩) hX7 (.slice a7 l.length c7)).mono hB7;have bF:Below w.heap.size w ((w7.setCell ⟨X+1+1,0,none⟩ (.int .i64 st)).setCell ⟨X+1+1,1,none⟩ (.slice a7 l.length c7)):=(bw5.setCell (by show _≤X+1+1;omega) _).setCell (by show _≤X+1+1;omega) _;refine bodyPost_ret (v:=.tuple #[.agg #[.int .i64 st,.slice a7 l.length c7],.bool false]) (by simp [results,Tryz.results50,go_sem,r1,r2]) rfl ?_;rw [zaa2 hv HT.out hk]
   exact ⟨_,rfl,oF,bF⟩
 · replace F5:=F5.below b6
   replace bw5:=bw5.trans (b6.mono bw5.size);replace o5:=o5.below b6;replace A5:=A5.below b6;clear b6;obtain ⟨r0,r1,r2,r3,r4⟩:=F5.r;obtain ⟨a0,a1,a2,a3,a4⟩:=A5;go_wp2_with fail;have oF:=((o5.setCell (p:=⟨X+1+1,0,none⟩) hX1 (.int .i64 (st))).setCell (p:=⟨X+1+1,1,none⟩) hX1 (.slice (some ⟨G,0,none⟩) zs.length cv)).mono hBw;have bF:Below w.heap.size w ((w6.setCell ⟨X+1+1,0,none⟩ (.int .i64 (st))).setCell ⟨X+1+1,1,none⟩ (.slice (some ⟨G,0,none⟩) zs.length cv)):=(bw5.setCell (by show _≤X+1+1;omega) _).setCell (by show _≤X+1+1;omega) _;refine bodyPost_ret (v:=.tuple #[.agg #[.int .i64 (st),.slice (some ⟨G,0,none⟩) zs.length cv],.bool true]) (by simp [results,Tryz.results50,go_sem,r1,r2]) rfl ?_;rw [zaa9 hv HT.out hk]
   exact ⟨_,rfl,oF,bF⟩
theorem zarn (a:Option Addr) (c:Nat) (st:Int) (l:List Lg) (ix:Int) (g:Lg) (w:World) (hl:l.length≤1048576) (hs:Legs w a l) (hv:svOk ⟨st,l⟩=true) (i:Nat) (hix:ix=(i:Int)) (hi:i<l.length) (hl9:l.length≤9) (h6:legOk 6 (nth l i)=true) (hfit:ddFits ⟨2,ix,g⟩=true) (hidx:isIdx ix (l.length:Int)=true) (ht:ddTry ⟨st,l⟩ ⟨2,ix,g⟩=some ⟨st,l.set i ⟨(nth l i).to,(nth l i).frm,-(nth l i).east,-(nth l i).north,-(nth l i).up⟩⟩) :
 Calls Tryz.prog 50 #[.agg #[.int .i64 st,.slice a l.length c],(⟨2,ix,g⟩:Dd).val] w (SvOut (ddDo ⟨st,l⟩ ⟨2,ix,g⟩) w):=by
 subst hix;obtain ⟨x1,x2,x3,x4,x5⟩:=g
 show Calls Tryz.prog 50 #[.agg #[.int .i64 st,.slice a l.length c],.agg #[.int .i64 2,.int .i64 (i:Int),.int .i64 x1,.int .i64 x2,.int .i64 x3,.int .i64 x4,.int .i64 x5]] w _
 go_enter Tryz.func50,Tryz.ntmps50
 go_wp2_with fail;obtain ⟨X,hX⟩:=qN (w.heap.size);obtain ⟨W0,hW0⟩:=qM (((w.alloc (.cells #[.int .i64 st,.slice a l.length c] 25)).alloc (.cells #[.int .i64 2,.int .i64 (i:Int),.int .i64 x1,.int .i64 x2,.int .i64 x3,.int .i64 x4,.int .i64 x5] 82)).alloc (.cells #[.int .i64 0,.slice none 0 0] 25))
 have F0:Fr W0 X st (.slice a l.length c) ⟨2,(i:Int),⟨x1,x2,x3,x4,x5⟩⟩:=by rw [hW0,← hX];exact Fr.new w st _ ⟨2,(i:Int),⟨x1,x2,x3,x4,x5⟩⟩ _ _ _
 have b0:Below w.heap.size w W0:=by rw [hW0];exact qBl
 rw [hX,← hW0];clear hW0;refine (zaab _ _ st l _ hl (hs.below b0)).mono ?_;rintro e w1 ⟨rfl,b1⟩;rw [hv];replace F0:=F0.below b1;replace b0:=b0.trans (b1.mono b0.size);clear b1 W0;obtain ⟨s0,s1,s2,-,-⟩:=F0.s;go_wp2_with fail;clear s0 s1 s2;have hX1:=F0.r.lt;refine (zaai _ _ st l _ hl (hs.below b0)).mono ?_;rintro e w2 ⟨v,rfl,o1,b1⟩;obtain ⟨av,cv,rfl⟩:=o1.sl;replace F0:=F0.below b1;have bw2:=b0.trans (b1.mono b0.size);have hB1:w1.heap.size≤w2.heap.size:=b1.size;have hBw:=b0.size
 have hoY:∀ k,(Value.slice av l.length cv).ownBlock=some k→k<w2.heap.size:=fun k hk=>(o1.lt hk).2
 clear b1;go_wp2_with fail;obtain ⟨Y,hY⟩:=qN (w2.heap.size);obtain ⟨W3,hW3⟩:=qM (w2.alloc (.cells #[.int .i64 st,.slice av l.length cv] 25))
 have A0:AtS W3 Y st (.slice av l.length cv):=by rw [hW3,← hY];exact AtS.new w2 st _ _
 have b3:Below w2.heap.size w2 W3:=by rw [hW3];exact qBl
 rw [hY,← hW3];clear hW3;replace F0:=F0.below b3;replace o1:=o1.below b3;replace bw2:=bw2.trans (b3.mono bw2.size);rw [hY] at hB1 hoY;clear b3 b0 hY w2;obtain ⟨s0,s1,s2,-,-⟩:=F0.s;obtain ⟨d0,d1,d2,d3,d4,d5,d6,d7⟩:=F0.d;simp only at d1 d2 d3 d4 d5 d6 d7;have k1:=cell_regrown s1;have k2:=cell_regrown s2;have e1:=cell_regrown d1;have e2:=cell_regrown d2;have e3:=cell_regrown d3;have e4:=cell_regrown d4;have e5:=cell_regrown d5;have e6:=cell_regrown d6;have e7:=cell_regrown d7;have i1:=zaad (w:=W3) (zaaw ⟨2,(i:Int),⟨x1,x2,x3,x4,x5⟩⟩);simp only [Dd.val,hfit] at i1
 have i2:=zaad (w:=W3) (fun w=>zabh a l.length c st 2 w hl)
 have i3:=zaad (w:=W3) (fun w=>(zaal (i:Int) ((l.length:Int)) w).mono fun _ _ ⟨h1,h2⟩=>⟨h1,h2▸Below.refl _ _⟩)
 rw [hidx] at i3;simp only [Int.reduceEq,if_false] at i2;refine wp_region_quiet_below (by kernel_rfl) (by kernel_rfl) ?_
 repeat (first|go_big_quiet_step (first|with_reducible exact i1 _ _|with_reducible exact i2 _ _|with_reducible exact i3 _ _)|quiet_step (first|with_reducible exact i1 _ _|with_reducible exact i2 _ _|with_reducible exact i3 _ _))
 refine wpQuiet_nil ?_;intro _ hw';obtain ⟨⟨dq,osq⟩,hw''⟩:=hw';have hgr:Below W3.heap.size W3 (grow (redrawn W3 dq) osq):=below_regrown W3 dq osq;subst hw'';generalize grow (redrawn W3 dq) osq=W4 at hgr ⊢;clear k1 k2 e1 e2 e3 e4 e5 e6 e7 i1 i2 i3 s0 s1 s2 d0 d1 d2 d3 d4 d5 d6 d7;replace F0:=F0.below hgr;replace A0:=A0.below hgr;replace o1:=o1.below hgr;replace bw2:=bw2.trans (hgr.mono bw2.size);clear hgr W3;obtain ⟨G,cap,e,hBG,hn,hm,hrow⟩:=o1.krow qO
 cases e
 have hGY:G<Y:=hoY G rfl;have t0:=hrow.at (k:=i) (r:=0) (show i<cv by omega) (by rw [if_pos hi]) rfl;have t1:=hrow.at (k:=i) (r:=1) (show i<cv by omega) (by rw [if_pos hi]) rfl;have t2:=hrow.at (k:=i) (r:=2) (show i<cv by omega) (by rw [if_pos hi]) rfl;have t3:=hrow.at (k:=i) (r:=3) (show i<cv by omega) (by rw [if_pos hi]) rfl;have t4:=hrow.at (k:=i) (r:=4) (show i<cv by omega) (by rw [if_pos hi]) rfl;have hfz:=hrow.free;have tsz:legK.sz=5:=rfl;rw [tsz] at t0 t1 t2 t3 t4;rw [Nat.add_zero] at t0;clear tsz;obtain ⟨s0,s1,s2,-,-⟩:=F0.s;obtain ⟨d0,d1,d2,d3,d4,d5,d6,d7⟩:=F0.d;simp only at d1 d2 d3 d4 d5 d6 d7;obtain ⟨a0,a1,a2,a3,a4⟩:=id A0;obtain ⟨bl,off,hae,hbl,m0,m1,m2,m3,m4⟩:=Legs.at (hs.below bw2) hi
 cases hae
 have hblw:bl<w.heap.size:=by
  obtain ⟨_,_,e9,hb9,-⟩:=Legs.at hs hi
  cases e9
  exact hb9
 have hii:(i:Int)<(l.length:Int):=qO
 have hLB:∀ w,Calls Tryz.prog 102 #[.agg #[.int .i64 (nth l i).frm,.int .i64 (nth l i).to,.int .i64 (nth l i).east,.int .i64 (nth l i).north,.int .i64 (nth l i).up]] w fun e w'=>e=.returned (.agg #[.int .i64 (nth l i).to,.int .i64 (nth l i).frm,.int .i64 (-(nth l i).east),.int .i64 (-(nth l i).north),.int .i64 (-(nth l i).up)])∧Below w.heap.size w w':=fun w=>zai3 (nth l i) w h6
 have HLB:=Lib.hid hLB;clear hLB h6;have hGl:G<W4.heap.size:=hrow.lt;have hXl:X<W4.heap.size:=s0;have hX1l:X+1<W4.heap.size:=d0;have hYl:Y<W4.heap.size:=a0;have ne1:X≠G:=qO;have ne2:X+1≠G:=qO;have ne3:Y≠G:=qO;have ne4:bl≠G:=qO;go_wp2_with fail
 go_region_held3 (fun w'=>w'.cell? ⟨X,1,none⟩=some (.slice (some ⟨bl,off,none⟩) l.length c)∧w'.cell? ⟨X+1,1,none⟩=some (.int .i64 (i:Int))∧w'.cell? ⟨Y,1,none⟩=some (.slice (some ⟨G,0,none⟩) l.length cv)∧w'.cell? ⟨bl,off+i*5,none⟩=some (.int .i64 (nth l i).frm)∧w'.cell? ⟨bl,off+i*5+1,none⟩=some (.int .i64 (nth l i).to)∧w'.cell? ⟨bl,off+i*5+2,none⟩=some (.int .i64 (nth l i).east)∧w'.cell? ⟨bl,off+i*5+3,none⟩=some (.int .i64 (nth l i).north)∧w'.cell? ⟨bl,off+i*5+4,none⟩=some (.int .i64 (nth l i).up)) (first|go_keep|((repeat rw [World.cell?_setCell_other _ _ _ _ (by intro h;injection h;omega)]);exact ⟨s2',d2',a2',m0',m1',m2',m3',m4'⟩))
  (first|(go_at_call 102;refine (HLB.out _).mono ?_;rintro e w5 ⟨rfl,b5⟩;have b45:Below W4.heap.size W4 w5:=Below.trans (by repeat (first|exact Below.refl _ _|refine Below.drew ?_)) (b5.mono qP);clear b5;have s2':=(b45.cell (p:=⟨X,1,none⟩) hXl).trans s2;have d2':=(b45.cell (p:=⟨X+1,1,none⟩) hX1l).trans d2;have a2':=(b45.cell (p:=⟨Y,1,none⟩) hYl).trans a2;have m0':=(b45.cell (p:=⟨bl,off+i*5,none⟩) hbl).trans m0;have m1':=(b45.cell (p:=⟨bl,off+i*5+1,none⟩) hbl).trans m1;have m2':=(b45.cell (p:=⟨bl,off+i*5+2,none⟩) hbl).trans m2;have m3':=(b45.cell (p:=⟨bl,off+i*5+3,none⟩) hbl).trans m3;have m4':=(b45.cell (p:=⟨bl,off+i*5+4,none⟩) hbl).trans m4;have t0':=(b45.cell (p:=⟨G,i*5,none⟩) hGl).trans t0;have t1':=(b45.cell (p:=⟨G,i*5+1,none⟩) hGl).trans t1;have t2':=(b45.cell (p:=⟨G,i*5+2,none⟩) hGl).trans t2;have t3':=(b45.cell (p:=⟨G,i*5+3,none⟩) hGl).trans t3;have t4':=(b45.cell (p:=⟨G,i*5+4,none⟩) hGl).trans t4;have hfz':=fun j=>(b45.frozen (p:=⟨G,j,none⟩) hGl).trans (hfz j)))
 all_goals
  clear s2' d2' a2' m0' m1' m2' m3' m4' t0' t1' t2' t3' t4' hfz' s0 s1 s2 d0 d1 d2 d3 d4 d5 d6 d7 a0 a1 a2 a3 a4 m0 m1 m2 m3 m4 t0 t1 t2 t3 t4 hfz HLB;replace F0:=F0.below b45;replace A0:=A0.below b45;replace o1:=o1.below b45;replace bw2:=bw2.trans (b45.mono bw2.size);clear b45 hrow hbl hGl hXl hX1l hYl W4;obtain ⟨G',cap,e,-,-,-,hrow⟩:=o1.krow qO
  cases e
  have hGY:G<Y:=hoY G rfl;have hput:=hrow.put i [⟨(nth l i).to,(nth l i).frm,-(nth l i).east,-(nth l i).north,-(nth l i).up⟩]
  have hF:∀ k,k<(l.set i ⟨(nth l i).to,(nth l i).frm,-(nth l i).east,-(nth l i).north,-(nth l i).up⟩).length→(fun k=>if i≤k∧k<i+[(⟨(nth l i).to,(nth l i).frm,-(nth l i).east,-(nth l i).north,-(nth l i).up⟩:Lg)].length then some (nth [(⟨(nth l i).to,(nth l i).frm,-(nth l i).east,-(nth l i).north,-(nth l i).up⟩:Lg)] (k - i)) else (fun k=>if k<l.length then some (nth l k) else none) k) k=some (nth (l.set i ⟨(nth l i).to,(nth l i).frm,-(nth l i).east,-(nth l i).north,-(nth l i).up⟩) k):=by
   intro k hk;simp only [List.length_set] at hk;simp only [List.length_cons,List.length_nil];rw [zaav hk]
   by_cases e:i=k
   · subst e;rw [if_pos qO,if_pos rfl];simp [nth]
   · rw [if_neg qO,if_pos hk,if_neg e]
  obtain ⟨zs,hzs⟩:=qM (l.set i ⟨(nth l i).to,(nth l i).frm,-(nth l i).east,-(nth l i).north,-(nth l i).up⟩)
  have hlen:zs.length=l.length:=by rw [hzs];simp
  have hlz:zs.length≤1048576:=by rw [hlen];exact hl
  rw [← hzs] at ht hF;have oP:=hput.own hBG zs qO hm hF;rw [hlen] at oP;have HZ:=Lib.hid hlen;have HO:=Lib.hid oP;have t0:=hrow.at (k:=i) (r:=0) (show i<cv by omega) (by rw [if_pos hi]) rfl;have t1:=hrow.at (k:=i) (r:=1) (show i<cv by omega) (by rw [if_pos hi]) rfl;have t2:=hrow.at (k:=i) (r:=2) (show i<cv by omega) (by rw [if_pos hi]) rfl;have t3:=hrow.at (k:=i) (r:=3) (show i<cv by omega) (by rw [if_pos hi]) rfl;have t4:=hrow.at (k:=i) (r:=4) (show i<cv by omega) (by rw [if_pos hi]) rfl;have hfz:=hrow.free;have tsz:legK.sz=5:=rfl;rw [tsz] at t0 t1 t2 t3 t4;rw [Nat.add_zero] at t0;clear tsz hF oP hlen hzs;obtain ⟨s0,s1,s2,-,-⟩:=F0.s;obtain ⟨d0,d1,d2,d3,d4,d5,d6,d7⟩:=F0.d;simp only at d1 d2 d3 d4 d5 d6 d7;obtain ⟨a0,a1,a2,a3,a4⟩:=id A0;go_wp2_with fail;obtain ⟨W5,hW5⟩:=qM ((((((w5.setCell ⟨G,i*5,none⟩ (.int .i64 (nth l i).to)).setCell ⟨G,i*5+1,none⟩ (.int .i64 (nth l i).frm)).setCell ⟨G,i*5+2,none⟩ (.int .i64 (-(nth l i).east))).setCell ⟨G,i*5+3,none⟩ (.int .i64 (-(nth l i).north))).setCell ⟨G,i*5+4,none⟩ (.int .i64 (-(nth l i).up))));rw [← hW5];have eW5:W5=w5.setCells G (i*legK.sz) (legK.flat [⟨(nth l i).to,(nth l i).frm,-(nth l i).east,-(nth l i).north,-(nth l i).up⟩]):=hW5
  have b5:Below w1.heap.size w5 W5:=by rw [eW5];exact zabp G hBG _ _ _ (Below.refl _ _)
  have F5:=F0.belowB b5 hX1;have A5:AtS W5 Y st (.slice (some ⟨G,0,none⟩) l.length cv):=A0.block (by rw [eW5];exact (zabx _ _ _).2.2.2.2 Y qO)
  have o5:OwnL W5 w1.heap.size (.slice (some ⟨G,0,none⟩) zs.length cv) zs:=by rw [eW5,HZ.out];exact HO.out
  have bw5:=bw2.trans (b5.mono hBw);rw [← HZ.out] at A5;have HE:(l.length=zs.length):=HZ.out.symm;rw [HE];clear HE;clear hW5 eW5 b5 F0 A0 o1 bw2 hput hrow HO t0 t1 t2 t3 t4 hfz a0 a1 a2 a3 a4 s0 s1 s2 d0 d1 d2 d3 d4 d5 d6 d7;have hlz:zs.length≤1048576:=hlz;obtain ⟨s0,s1,s2,-,-⟩:=F5.s;have HT:=Lib.hid ht;clear ht;refine (zaab _ _ (st) zs _ hlz (by obtain ⟨_,_,e,_,_,hr⟩:=o5.rd;cases e;exact hr)).mono ?_;rintro e w6 ⟨rfl,b6⟩;clear s0 s1 s2
  cases hk:svOk ⟨st,zs⟩
  · replace F5:=F5.below b6
    replace bw5:=bw5.trans (b6.mono bw5.size);clear b6 o5 A5;obtain ⟨s0,s1,s2,-,-⟩:=F5.s;go_wp2_with fail;refine (zaai _ _ st l _ hl (hs.below bw5)).mono ?_;rintro e w7 ⟨v7,rfl,o7,b7⟩;obtain ⟨a7,c7,rfl⟩:=o7.sl;clear s0 s1 s2;have hX7:=F5.r.lt;have hB7:=bw5.size;replace F5:=F5.below b7;replace bw5:=bw5.trans (b7.mono bw5.size);obtain ⟨r0,r1,r2,r3,r4⟩:=F5.r;clear b7 F5;go_wp2_with fail;have oF:=((o7.setCell (p:=⟨X+1+1,0,none⟩) hX7 (.int .i64 st)).setCell (p:=⟨X+1+1,1,none⟩) hX7 (.slice a7 l.length c7)).mono hB7;have bF:Below w.heap.size w ((w7.setCell ⟨X+1+1,0,none⟩ (.int .i64 st)).setCell ⟨X+1+1,1,none⟩ (.slice a7 l.length c7)):=(bw5.setCell (by show _≤X+1+1;omega) _).setCell (by show _≤X+1+1;omega) _;refine bodyPost_ret (v:=.tuple #[.agg #[.int .i64 st,.slice a7 l.length c7],.bool false]) (by simp [results,Tryz.results50,go_sem,r1,r2]) rfl ?_;rw [zaa2 hv HT.out hk]
    exact ⟨_,rfl,oF,bF⟩
  · replace F5:=F5.below b6
    replace bw5:=bw5.trans (b6.mono bw5.size);replace o5:=o5.below b6;replace A5:=A5.below b6;clear b6;obtain ⟨r0,r1,r2,r3,r4⟩:=F5.r;obtain ⟨a0,a1,a2,a3,a4⟩:=A5;go_wp2_with fail;have oF:=((o5.setCell (p:=⟨X+1+1,0,none⟩) hX1 (.int .i64 (st))).setCell (p:=⟨X+1+1,1,none⟩) hX1 (.slice (some ⟨G,0,none⟩) zs.length cv)).mono hBw;have bF:Below w.heap.size w ((w6.setCell ⟨X+1+1,0,none⟩ (.int .i64 (st))).setCell ⟨X+1+1,1,none⟩ (.slice (some ⟨G,0,none⟩) zs.length cv)):=(bw5.setCell (by show _≤X+1+1;omega) _).setCell (by show _≤X+1+1;omega) _;refine bodyPost_ret (v:=.tuple #[.agg #[.int .i64 (st),.slice (some ⟨G,0,none⟩) zs.length cv],.bool true]) (by simp [results,Tryz.results50,go_sem,r1,r2]) rfl ?_;rw [zaa9 hv HT.out hk]
    exact ⟨_,rfl,oF,bF⟩
theorem zaro {s:Sv} {d:Dd} (h:ddFits d=false):ddTry s d=none:=by
 obtain ⟨kd,ix,g⟩:=d;unfold ddFits at h;unfold ddTry;simp only at h ⊢
 by_cases h0:kd=0
 · simp [h0] at h
 by_cases h3:kd=3
 · simp [h3] at h
 by_cases h1:kd=1
 · subst h1;simp at h;simp [h]
 by_cases h2:kd=2
 · subst h2;simp at h;simp [h]
 by_cases h4:kd=4
 · subst h4;simp at h
   rw [if_neg (by decide),if_neg (by decide),if_neg (by decide),if_neg (by decide),if_pos rfl,if_neg (fun ⟨e1,e2⟩=>h e2 e1)]
 by_cases h5:kd=5
 · subst h5;simp at h
   rw [if_neg (by decide),if_neg (by decide),if_neg (by decide),if_neg (by decide),if_neg (by decide),if_pos rfl,if_neg (fun ⟨e1,e2⟩=>h e2 e1)]
 · simp [h0,h1,h2,h3,h4,h5]
theorem zaf0 {x n:Int} (h:isIdx x n=true):∃ i:Nat,x=(i:Int)∧(i:Int)<n:=by
 simp only [isIdx,Bool.and_eq_true,decide_eq_true_eq] at h
 exact ⟨x.toNat,by omega,by omega⟩
theorem zag1 {x n:Int} (h:isIdx x n=false):¬ (0≤x∧x<n):=by
 simp only [isIdx,Bool.and_eq_false_iff,decide_eq_false_iff_not] at h
 omega
theorem zag2 (a:Option Addr) (c:Nat) (st:Int) (l:List Lg) (d:Dd) (w:World) (hl:l.length≤1048576) (hs:Legs w a l) :
 Calls Tryz.prog 50 #[.agg #[.int .i64 st,.slice a l.length c],d.val] w (SvOut (ddDo ⟨st,l⟩ d) w):=by
 cases hv:svOk ⟨st,l⟩
 · exact zatc a c st l d w hl hs hv
 obtain ⟨v1,v2,v3,v4⟩:=svOk_iff.1 hv;simp only at v1 v2 v3 v4
 cases hfit:ddFits d
 · obtain ⟨kd,ix,g⟩:=d
   exact zapy a c st l kd ix g w hl hs hv hfit (zaro hfit)
 obtain ⟨kd,ix,g⟩:=d
 have hkd:kd=0∨kd=1∨kd=2∨kd=3∨kd=4∨kd=5:=by
  unfold ddFits at hfit;simp only at hfit
  split at hfit
  · omega
  · split at hfit
    · omega
    · split at hfit
      · omega
      · cases hfit
 have hg1:kd=1∨kd=2→g=noLeg:=fun h=>by
  unfold ddFits at hfit;simp only at hfit;rw [if_neg qO,if_pos h] at hfit
  exact of_decide_eq_true hfit
 have hg4:kd=4∨kd=5→g=noLeg∧ix=0:=fun h=>by
  unfold ddFits at hfit;simp only at hfit;rw [if_neg qO,if_neg qO,if_pos h] at hfit
  simpa using hfit
 rcases hkd with rfl|rfl|rfl|rfl|rfl|rfl
 · cases hidx:isIdx ix ((l.length:Int)+1)
   · refine zari a c st l ix g w hl hs hv hfit hidx ?_
     have:=zag1 hidx;unfold ddTry;simp only [if_true];rw [if_neg qO]
   · obtain ⟨i,rfl,hi⟩:=zaf0 hidx
     refine zap1 a c st l _ g w hl hs hv i rfl qO v3 hfit hidx ?_;unfold ddTry;simp only [if_true,Int.toNat_natCast];rw [if_pos qO]
 · cases hidx:isIdx ix (l.length:Int)
   · refine zarj a c st l ix g w hl hs hv hfit hidx ?_
     have:=zag1 hidx;unfold ddTry;simp only [Int.reduceEq,if_true,if_false]
     rw [if_neg (fun h=>this ⟨h.1,h.2.1⟩)]
   · obtain ⟨i,rfl,hi⟩:=zaf0 hidx
     refine zap2 a c st l _ g w hl hs hv i rfl qO v3 hfit hidx ?_;unfold ddTry;simp only [Int.reduceEq,if_true,if_false,Int.toNat_natCast];rw [if_pos ⟨by omega,by omega,hg1 qO⟩]
 · cases hidx:isIdx ix (l.length:Int)
   · refine zark a c st l ix g w hl hs hv hfit hidx ?_
     have:=zag1 hidx;unfold ddTry;simp only [Int.reduceEq,if_true,if_false]
     rw [if_neg (fun h=>this ⟨h.1,h.2.1⟩)]
   · obtain ⟨i,rfl,hi⟩:=zaf0 hidx
     refine zarn a c st l _ g w hl hs hv i rfl qO v3 (zach v2 (zabq v4 qO)) hfit hidx ?_;unfold ddTry;simp only [Int.reduceEq,if_true,if_false,Int.toNat_natCast];rw [if_pos ⟨by omega,by omega,hg1 qO⟩]
     rfl
 · cases hidx:isIdx ix (l.length:Int)
   · refine zarl a c st l ix g w hl hs hv hfit hidx ?_
     have:=zag1 hidx;unfold ddTry;simp only [Int.reduceEq,if_true,if_false]
     rw [if_neg (fun h=>this ⟨h.1,h.2.1⟩)]
   · obtain ⟨i,rfl,hi⟩:=zaf0 hidx
     by_cases he:g=nth l i
     · refine zarm a c st l _ g w hl hs hv i rfl qO v3 hfit hidx he ?_
       unfold ddTry;simp only [Int.reduceEq,if_true,if_false,Int.toNat_natCast]
       rw [if_neg (fun h=>h.2.2 he)]
     · refine zatd a c st l _ g w hl hs hv i rfl qO v3 hfit hidx he ?_
       unfold ddTry;simp only [Int.reduceEq,if_true,if_false,Int.toNat_natCast];rw [if_pos ⟨by omega,by omega,he⟩]
 · refine zapz a c st l ix g w hl hs hv hfit ?_ ⟨v1,v2⟩
   unfold ddTry;simp only [Int.reduceEq,if_true,if_false];rw [if_pos ⟨(hg4 qO).2,(hg4 qO).1⟩]
 · refine zap0 a c st l ix g w hl hs hv hfit ?_ ⟨v1,v2⟩
   unfold ddTry;simp only [Int.reduceEq,if_true,if_false];rw [if_pos ⟨(hg4 qO).2,(hg4 qO).1⟩]
end Go.Proofs.YthfoloefkfadlaaGreatDoor
