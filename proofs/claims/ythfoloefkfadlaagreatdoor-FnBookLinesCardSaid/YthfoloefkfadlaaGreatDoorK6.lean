/- Walks: spec.DeedDo, a kind of deed each (the theorems are written by wip/bin/gen_g10.py). -/
import Derived.Test.YthfoloefkfadlaaGreatDoorK4
import Derived.Deep.RegionHeld3
set_option linter.unusedSimpArgs false
set_option linter.unusedVariables false
set_option maxHeartbeats 2000000
namespace Go.Proofs.YthfoloefkfadlaaGreatDoor
open Go Go.RowKit Go.Sort
theorem zarc (a:Option Addr) (c:Nat) (st:Int) (l:List Lg) (d:Dd) (w:World) (hl:l.length≤1048576) (hs:Legs w a l) (hv:svOk ⟨st,l⟩=false) :
 Calls Tryz.prog 86 #[.agg #[.int .i64 st,.slice a l.length c],d.val] w (SvOut (ddDo ⟨st,l⟩ d) w):=by
 rw [zagr hv];obtain ⟨kd,ix,⟨x1,x2,x3,x4,x5⟩⟩:=d
 show Calls Tryz.prog 86 #[.agg #[.int .i64 st,.slice a l.length c],.agg #[.int .i64 kd,.int .i64 ix,.int .i64 x1,.int .i64 x2,.int .i64 x3,.int .i64 x4,.int .i64 x5]] w _
 go_enter Tryz.func86,Tryz.ntmps86
 go_wp2_with (go_at_call 42;refine (zaaa _ _ st l _ hl (hs.below qBl)).mono ?_;rintro e w1 ⟨rfl,b1⟩;rw [hv];obtain ⟨hc,hf⟩:=bcell b1)
 refine bodyPost_ret (v:=.tuple #[.agg #[.int .i64 0,.slice none 0 0],.bool false]) (by simp [results,Tryz.results86,go_sem,hc]) rfl ⟨_,rfl,KOwn.nil,(by repeat (first|with_reducible assumption|with_reducible exact Below.refl _ _|refine Below.setCell ?_ qSo _|refine Below.alloc ?_ qSo _|with_reducible exact Below.trans (Below.refl _ _) b1|refine Below.trans ?_ (Below.mono b1 qSo)|refine below_drewN ?_ _|refine Below.drew ?_))⟩
theorem zapb (a:Option Addr) (c:Nat) (st:Int) (l:List Lg) (kd ix:Int) (g:Lg) (w:World) (hl:l.length≤1048576) (hs:Legs w a l) (hv:svOk ⟨st,l⟩=true) (hin:ddIn ⟨kd,ix,g⟩=false) (hno:ddDo ⟨st,l⟩ ⟨kd,ix,g⟩=(⟨st,l⟩,false)) :
 Calls Tryz.prog 86 #[.agg #[.int .i64 st,.slice a l.length c],(⟨kd,ix,g⟩:Dd).val] w (SvOut (ddDo ⟨st,l⟩ ⟨kd,ix,g⟩) w):=by
 obtain ⟨x1,x2,x3,x4,x5⟩:=g
 show Calls Tryz.prog 86 #[.agg #[.int .i64 st,.slice a l.length c],.agg #[.int .i64 kd,.int .i64 ix,.int .i64 x1,.int .i64 x2,.int .i64 x3,.int .i64 x4,.int .i64 x5]] w _
 go_enter Tryz.func86,Tryz.ntmps86
 go_wp2_with fail;obtain ⟨X,hX⟩:=qN (w.heap.size);obtain ⟨W0,hW0⟩:=qM (((w.alloc (.cells #[.int .i64 st,.slice a l.length c] 25)).alloc (.cells #[.int .i64 kd,.int .i64 ix,.int .i64 x1,.int .i64 x2,.int .i64 x3,.int .i64 x4,.int .i64 x5] 82)).alloc (.cells #[.int .i64 0,.slice none 0 0] 25))
 have F0:Fr W0 X st (.slice a l.length c) ⟨kd,ix,⟨x1,x2,x3,x4,x5⟩⟩:=by rw [hW0,← hX];exact Fr.new w st _ ⟨kd,ix,⟨x1,x2,x3,x4,x5⟩⟩ _ _ _
 have b0:Below w.heap.size w W0:=by rw [hW0];exact qBl
 rw [hX,← hW0];clear hW0;refine (zaaa _ _ st l _ hl (hs.below b0)).mono ?_;rintro e w1 ⟨rfl,b1⟩;rw [hv];replace F0:=F0.below b1;replace b0:=b0.trans (b1.mono b0.size);clear b1 W0;obtain ⟨s0,s1,s2,-,-⟩:=F0.s;go_wp2_with fail;clear s0 s1 s2;have hX1:=F0.r.lt;refine (zaah _ _ st l _ hl (hs.below b0)).mono ?_;rintro e w2 ⟨v,rfl,o1,b1⟩;obtain ⟨av,cv,rfl⟩:=o1.sl;replace F0:=F0.below b1;have bw2:=b0.trans (b1.mono b0.size);have hB1:w1.heap.size≤w2.heap.size:=b1.size;have hBw:=b0.size
 have hoY:∀ k,(Value.slice av l.length cv).ownBlock=some k→k<w2.heap.size:=fun k hk=>(o1.lt hk).2
 clear b1;obtain ⟨d0,d1,d2,d3,d4,d5,d6,d7⟩:=F0.d;simp only at d1 d2 d3 d4 d5 d6 d7;go_wp2_with fail;obtain ⟨Y,hY⟩:=qN (w2.heap.size);obtain ⟨W3,hW3⟩:=qM (w2.alloc (.cells #[.int .i64 st,.slice av l.length cv] 25))
 have A0:AtS W3 Y st (.slice av l.length cv):=by rw [hW3,← hY];exact AtS.new w2 st _ _
 have b3:Below w2.heap.size w2 W3:=by rw [hW3];exact qBl
 rw [hY,← hW3];clear hW3 d0 d1 d2 d3 d4 d5 d6 d7;replace F0:=F0.below b3;replace o1:=o1.below b3;replace bw2:=bw2.trans (b3.mono bw2.size);rw [hY] at hB1 hoY;clear b3 b0 hY w2;refine (zaa5 ⟨kd,ix,⟨x1,x2,x3,x4,x5⟩⟩ _).mono ?_;rintro e W4 ⟨rfl,hgr⟩;rw [hin];replace F0:=F0.below hgr;replace A0:=A0.below hgr;replace o1:=o1.below hgr;replace bw2:=bw2.trans (hgr.mono bw2.size);clear hgr W3;obtain ⟨s0,s1,s2,-,-⟩:=F0.s;obtain ⟨d0,d1,d2,d3,d4,d5,d6,d7⟩:=F0.d;simp only at d1 d2 d3 d4 d5 d6 d7;go_wp2_with fail;refine (zaac (ix) 0 ((l.length:Int) - 1) _).mono ?_;rintro e W4' ⟨rfl,hww⟩;obtain rfl:=hww;go_wp2_with fail;refine (zaah _ _ st l _ hl (hs.below bw2)).mono ?_;rintro e w7 ⟨v7,rfl,o7,b7⟩;obtain ⟨a7,c7,rfl⟩:=o7.sl;clear s0 s1 s2;have hX7:=F0.r.lt;have hB7:=bw2.size;replace F0:=F0.below b7;replace bw2:=bw2.trans (b7.mono bw2.size);obtain ⟨r0,r1,r2,r3,r4⟩:=F0.r;clear b7 F0;go_wp2_with fail;have oF:=((o7.setCell (p:=⟨X+1+1,0,none⟩) hX7 (.int .i64 st)).setCell (p:=⟨X+1+1,1,none⟩) hX7 (.slice a7 l.length c7)).mono hB7;have bF:Below w.heap.size w ((w7.setCell ⟨X+1+1,0,none⟩ (.int .i64 st)).setCell ⟨X+1+1,1,none⟩ (.slice a7 l.length c7)):=(bw2.setCell (by show _≤X+1+1;omega) _).setCell (by show _≤X+1+1;omega) _;refine bodyPost_ret (v:=.tuple #[.agg #[.int .i64 st,.slice a7 l.length c7],.bool false]) (by simp [results,Tryz.results86,go_sem,r1,r2]) rfl ?_;rw [hno]
 exact ⟨_,rfl,oF,bF⟩
theorem zapc (a:Option Addr) (c:Nat) (st:Int) (l:List Lg) (ix:Int) (g:Lg) (w:World) (hl:l.length≤1048576) (hs:Legs w a l) (hv:svOk ⟨st,l⟩=true) (hin:ddIn ⟨0,ix,g⟩=true) (hth:¬ ix≤(l.length:Int)) (hno:ddDo ⟨st,l⟩ ⟨0,ix,g⟩=(⟨st,l⟩,false)) :
 Calls Tryz.prog 86 #[.agg #[.int .i64 st,.slice a l.length c],(⟨0,ix,g⟩:Dd).val] w (SvOut (ddDo ⟨st,l⟩ ⟨0,ix,g⟩) w):=by
 obtain ⟨x1,x2,x3,x4,x5⟩:=g
 show Calls Tryz.prog 86 #[.agg #[.int .i64 st,.slice a l.length c],.agg #[.int .i64 0,.int .i64 ix,.int .i64 x1,.int .i64 x2,.int .i64 x3,.int .i64 x4,.int .i64 x5]] w _
 go_enter Tryz.func86,Tryz.ntmps86
 go_wp2_with fail;obtain ⟨X,hX⟩:=qN (w.heap.size);obtain ⟨W0,hW0⟩:=qM (((w.alloc (.cells #[.int .i64 st,.slice a l.length c] 25)).alloc (.cells #[.int .i64 0,.int .i64 ix,.int .i64 x1,.int .i64 x2,.int .i64 x3,.int .i64 x4,.int .i64 x5] 82)).alloc (.cells #[.int .i64 0,.slice none 0 0] 25))
 have F0:Fr W0 X st (.slice a l.length c) ⟨0,ix,⟨x1,x2,x3,x4,x5⟩⟩:=by rw [hW0,← hX];exact Fr.new w st _ ⟨0,ix,⟨x1,x2,x3,x4,x5⟩⟩ _ _ _
 have b0:Below w.heap.size w W0:=by rw [hW0];exact qBl
 rw [hX,← hW0];clear hW0;refine (zaaa _ _ st l _ hl (hs.below b0)).mono ?_;rintro e w1 ⟨rfl,b1⟩;rw [hv];replace F0:=F0.below b1;replace b0:=b0.trans (b1.mono b0.size);clear b1 W0;obtain ⟨s0,s1,s2,-,-⟩:=F0.s;go_wp2_with fail;clear s0 s1 s2;have hX1:=F0.r.lt;refine (zaah _ _ st l _ hl (hs.below b0)).mono ?_;rintro e w2 ⟨v,rfl,o1,b1⟩;obtain ⟨av,cv,rfl⟩:=o1.sl;replace F0:=F0.below b1;have bw2:=b0.trans (b1.mono b0.size);have hB1:w1.heap.size≤w2.heap.size:=b1.size;have hBw:=b0.size
 have hoY:∀ k,(Value.slice av l.length cv).ownBlock=some k→k<w2.heap.size:=fun k hk=>(o1.lt hk).2
 clear b1;obtain ⟨d0,d1,d2,d3,d4,d5,d6,d7⟩:=F0.d;simp only at d1 d2 d3 d4 d5 d6 d7;go_wp2_with fail;obtain ⟨Y,hY⟩:=qN (w2.heap.size);obtain ⟨W3,hW3⟩:=qM (w2.alloc (.cells #[.int .i64 st,.slice av l.length cv] 25))
 have A0:AtS W3 Y st (.slice av l.length cv):=by rw [hW3,← hY];exact AtS.new w2 st _ _
 have b3:Below w2.heap.size w2 W3:=by rw [hW3];exact qBl
 rw [hY,← hW3];clear hW3 d0 d1 d2 d3 d4 d5 d6 d7;replace F0:=F0.below b3;replace o1:=o1.below b3;replace bw2:=bw2.trans (b3.mono bw2.size);rw [hY] at hB1 hoY;clear b3 b0 hY w2;refine (zaa5 ⟨0,ix,⟨x1,x2,x3,x4,x5⟩⟩ _).mono ?_;rintro e W4 ⟨rfl,hgr⟩;rw [hin];replace F0:=F0.below hgr;replace A0:=A0.below hgr;replace o1:=o1.below hgr;replace bw2:=bw2.trans (hgr.mono bw2.size);clear hgr W3;obtain ⟨s0,s1,s2,-,-⟩:=F0.s;obtain ⟨d0,d1,d2,d3,d4,d5,d6,d7⟩:=F0.d;simp only at d1 d2 d3 d4 d5 d6 d7;go_wp2_with fail;refine (zaac (ix) 0 ((l.length:Int) - 1) _).mono ?_;rintro e W4' ⟨rfl,hww⟩;obtain rfl:=hww;go_wp2_with fail
 go_quiet (fail)
 obtain ⟨V,hV⟩:=qM (W4.drewN nq)
 have bV:Below W4.heap.size W4 V:=by rw [hV];exact below_drewN (Below.refl _ _) _
 rw [← hV];replace F0:=F0.below bV;replace A0:=A0.below bV;replace o1:=o1.below bV;replace bw2:=bw2.trans (bV.mono bw2.size);clear hV bV s0 s1 s2 d0 d1 d2 d3 d4 d5 d6 d7 W4;obtain ⟨s0,s1,s2,-,-⟩:=F0.s;obtain ⟨d0,d1,d2,d3,d4,d5,d6,d7⟩:=F0.d;simp only at d1 d2 d3 d4 d5 d6 d7;go_wp2_with fail;refine (zaah _ _ st l _ hl (hs.below bw2)).mono ?_;rintro e w7 ⟨v7,rfl,o7,b7⟩;obtain ⟨a7,c7,rfl⟩:=o7.sl;clear s0 s1 s2;have hX7:=F0.r.lt;have hB7:=bw2.size;replace F0:=F0.below b7;replace bw2:=bw2.trans (b7.mono bw2.size);obtain ⟨r0,r1,r2,r3,r4⟩:=F0.r;clear b7 F0;go_wp2_with fail;have oF:=((o7.setCell (p:=⟨X+1+1,0,none⟩) hX7 (.int .i64 st)).setCell (p:=⟨X+1+1,1,none⟩) hX7 (.slice a7 l.length c7)).mono hB7;have bF:Below w.heap.size w ((w7.setCell ⟨X+1+1,0,none⟩ (.int .i64 st)).setCell ⟨X+1+1,1,none⟩ (.slice a7 l.length c7)):=(bw2.setCell (by show _≤X+1+1;omega) _).setCell (by show _≤X+1+1;omega) _;refine bodyPost_ret (v:=.tuple #[.agg #[.int .i64 st,.slice a7 l.length c7],.bool false]) (by simp [results,Tryz.results86,go_sem,r1,r2]) rfl ?_;rw [hno]
 exact ⟨_,rfl,oF,bF⟩
theorem zapd (a:Option Addr) (c:Nat) (st:Int) (l:List Lg) (ix:Int) (g:Lg) (w:World) (hl:l.length≤1048576) (hs:Legs w a l) (hv:svOk ⟨st,l⟩=true) (hin:ddIn ⟨1,ix,g⟩=true) (hth:inB ix 0 ((l.length:Int) - 1)=false) (hno:ddDo ⟨st,l⟩ ⟨1,ix,g⟩=(⟨st,l⟩,false)) :
 Calls Tryz.prog 86 #[.agg #[.int .i64 st,.slice a l.length c],(⟨1,ix,g⟩:Dd).val] w (SvOut (ddDo ⟨st,l⟩ ⟨1,ix,g⟩) w):=by
 obtain ⟨x1,x2,x3,x4,x5⟩:=g
 show Calls Tryz.prog 86 #[.agg #[.int .i64 st,.slice a l.length c],.agg #[.int .i64 1,.int .i64 ix,.int .i64 x1,.int .i64 x2,.int .i64 x3,.int .i64 x4,.int .i64 x5]] w _
 go_enter Tryz.func86,Tryz.ntmps86
 go_wp2_with fail;obtain ⟨X,hX⟩:=qN (w.heap.size);obtain ⟨W0,hW0⟩:=qM (((w.alloc (.cells #[.int .i64 st,.slice a l.length c] 25)).alloc (.cells #[.int .i64 1,.int .i64 ix,.int .i64 x1,.int .i64 x2,.int .i64 x3,.int .i64 x4,.int .i64 x5] 82)).alloc (.cells #[.int .i64 0,.slice none 0 0] 25))
 have F0:Fr W0 X st (.slice a l.length c) ⟨1,ix,⟨x1,x2,x3,x4,x5⟩⟩:=by rw [hW0,← hX];exact Fr.new w st _ ⟨1,ix,⟨x1,x2,x3,x4,x5⟩⟩ _ _ _
 have b0:Below w.heap.size w W0:=by rw [hW0];exact qBl
 rw [hX,← hW0];clear hW0;refine (zaaa _ _ st l _ hl (hs.below b0)).mono ?_;rintro e w1 ⟨rfl,b1⟩;rw [hv];replace F0:=F0.below b1;replace b0:=b0.trans (b1.mono b0.size);clear b1 W0;obtain ⟨s0,s1,s2,-,-⟩:=F0.s;go_wp2_with fail;clear s0 s1 s2;have hX1:=F0.r.lt;refine (zaah _ _ st l _ hl (hs.below b0)).mono ?_;rintro e w2 ⟨v,rfl,o1,b1⟩;obtain ⟨av,cv,rfl⟩:=o1.sl;replace F0:=F0.below b1;have bw2:=b0.trans (b1.mono b0.size);have hB1:w1.heap.size≤w2.heap.size:=b1.size;have hBw:=b0.size
 have hoY:∀ k,(Value.slice av l.length cv).ownBlock=some k→k<w2.heap.size:=fun k hk=>(o1.lt hk).2
 clear b1;obtain ⟨d0,d1,d2,d3,d4,d5,d6,d7⟩:=F0.d;simp only at d1 d2 d3 d4 d5 d6 d7;go_wp2_with fail;obtain ⟨Y,hY⟩:=qN (w2.heap.size);obtain ⟨W3,hW3⟩:=qM (w2.alloc (.cells #[.int .i64 st,.slice av l.length cv] 25))
 have A0:AtS W3 Y st (.slice av l.length cv):=by rw [hW3,← hY];exact AtS.new w2 st _ _
 have b3:Below w2.heap.size w2 W3:=by rw [hW3];exact qBl
 rw [hY,← hW3];clear hW3 d0 d1 d2 d3 d4 d5 d6 d7;replace F0:=F0.below b3;replace o1:=o1.below b3;replace bw2:=bw2.trans (b3.mono bw2.size);rw [hY] at hB1 hoY;clear b3 b0 hY w2;refine (zaa5 ⟨1,ix,⟨x1,x2,x3,x4,x5⟩⟩ _).mono ?_;rintro e W4 ⟨rfl,hgr⟩;rw [hin];replace F0:=F0.below hgr;replace A0:=A0.below hgr;replace o1:=o1.below hgr;replace bw2:=bw2.trans (hgr.mono bw2.size);clear hgr W3;obtain ⟨s0,s1,s2,-,-⟩:=F0.s;obtain ⟨d0,d1,d2,d3,d4,d5,d6,d7⟩:=F0.d;simp only at d1 d2 d3 d4 d5 d6 d7;go_wp2_with fail;refine (zaac (ix) 0 ((l.length:Int) - 1) _).mono ?_;rintro e W4' ⟨rfl,hww⟩;obtain rfl:=hww;rw [hth];go_wp2_with fail
 go_quiet (fail)
 obtain ⟨V,hV⟩:=qM (W4.drewN nq)
 have bV:Below W4.heap.size W4 V:=by rw [hV];exact below_drewN (Below.refl _ _) _
 rw [← hV];replace F0:=F0.below bV;replace A0:=A0.below bV;replace o1:=o1.below bV;replace bw2:=bw2.trans (bV.mono bw2.size);clear hV bV s0 s1 s2 d0 d1 d2 d3 d4 d5 d6 d7 W4;obtain ⟨s0,s1,s2,-,-⟩:=F0.s;obtain ⟨d0,d1,d2,d3,d4,d5,d6,d7⟩:=F0.d;simp only at d1 d2 d3 d4 d5 d6 d7;go_wp2_with fail;refine (zaah _ _ st l _ hl (hs.below bw2)).mono ?_;rintro e w7 ⟨v7,rfl,o7,b7⟩;obtain ⟨a7,c7,rfl⟩:=o7.sl;clear s0 s1 s2;have hX7:=F0.r.lt;have hB7:=bw2.size;replace F0:=F0.below b7;replace bw2:=bw2.trans (b7.mono bw2.size);obtain ⟨r0,r1,r2,r3,r4⟩:=F0.r;clear b7 F0;go_wp2_with fail;have oF:=((o7.setCell (p:=⟨X+1+1,0,none⟩) hX7 (.int .i64 st)).setCell (p:=⟨X+1+1,1,none⟩) hX7 (.slice a7 l.length c7)).mono hB7;have bF:Below w.heap.size w ((w7.setCell ⟨X+1+1,0,none⟩ (.int .i64 st)).setCell ⟨X+1+1,1,none⟩ (.slice a7 l.length c7)):=(bw2.setCell (by show _≤X+1+1;omega) _).setCell (by show _≤X+1+1;omega) _;refine bodyPost_ret (v:=.tuple #[.agg #[.int .i64 st,.slice a7 l.length c7],.bool false]) (by simp [results,Tryz.results86,go_sem,r1,r2]) rfl ?_;rw [hno]
 exact ⟨_,rfl,oF,bF⟩
theorem zape (a:Option Addr) (c:Nat) (st:Int) (l:List Lg) (ix:Int) (g:Lg) (w:World) (hl:l.length≤1048576) (hs:Legs w a l) (hv:svOk ⟨st,l⟩=true) (hin:ddIn ⟨2,ix,g⟩=true) (hth:inB ix 0 ((l.length:Int) - 1)=false) (hno:ddDo ⟨st,l⟩ ⟨2,ix,g⟩=(⟨st,l⟩,false)) :
 Calls Tryz.prog 86 #[.agg #[.int .i64 st,.slice a l.length c],(⟨2,ix,g⟩:Dd).val] w (SvOut (ddDo ⟨st,l⟩ ⟨2,ix,g⟩) w):=by
 obtain ⟨x1,x2,x3,x4,x5⟩:=g
 show Calls Tryz.prog 86 #[.agg #[.int .i64 st,.slice a l.length c],.agg #[.int .i64 2,.int .i64 ix,.int .i64 x1,.int .i64 x2,.int .i64 x3,.int .i64 x4,.int .i64 x5]] w _
 go_enter Tryz.func86,Tryz.ntmps86
 go_wp2_with fail;obtain ⟨X,hX⟩:=qN (w.heap.size);obtain ⟨W0,hW0⟩:=qM (((w.alloc (.cells #[.int .i64 st,.slice a l.length c] 25)).alloc (.cells #[.int .i64 2,.int .i64 ix,.int .i64 x1,.int .i64 x2,.int .i64 x3,.int .i64 x4,.int .i64 x5] 82)).alloc (.cells #[.int .i64 0,.slice none 0 0] 25))
 have F0:Fr W0 X st (.slice a l.length c) ⟨2,ix,⟨x1,x2,x3,x4,x5⟩⟩:=by rw [hW0,← hX];exact Fr.new w st _ ⟨2,ix,⟨x1,x2,x3,x4,x5⟩⟩ _ _ _
 have b0:Below w.heap.size w W0:=by rw [hW0];exact qBl
 rw [hX,← hW0];clear hW0;refine (zaaa _ _ st l _ hl (hs.below b0)).mono ?_;rintro e w1 ⟨rfl,b1⟩;rw [hv];replace F0:=F0.below b1;replace b0:=b0.trans (b1.mono b0.size);clear b1 W0;obtain ⟨s0,s1,s2,-,-⟩:=F0.s;go_wp2_with fail;clear s0 s1 s2;have hX1:=F0.r.lt;refine (zaah _ _ st l _ hl (hs.below b0)).mono ?_;rintro e w2 ⟨v,rfl,o1,b1⟩;obtain ⟨av,cv,rfl⟩:=o1.sl;replace F0:=F0.below b1;have bw2:=b0.trans (b1.mono b0.size);have hB1:w1.heap.size≤w2.heap.size:=b1.size;have hBw:=b0.size
 have hoY:∀ k,(Value.slice av l.length cv).ownBlock=some k→k<w2.heap.size:=fun k hk=>(o1.lt hk).2
 clear b1;obtain ⟨d0,d1,d2,d3,d4,d5,d6,d7⟩:=F0.d;simp only at d1 d2 d3 d4 d5 d6 d7;go_wp2_with fail;obtain ⟨Y,hY⟩:=qN (w2.heap.size);obtain ⟨W3,hW3⟩:=qM (w2.alloc (.cells #[.int .i64 st,.slice av l.length cv] 25))
 have A0:AtS W3 Y st (.slice av l.length cv):=by rw [hW3,← hY];exact AtS.new w2 st _ _
 have b3:Below w2.heap.size w2 W3:=by rw [hW3];exact qBl
 rw [hY,← hW3];clear hW3 d0 d1 d2 d3 d4 d5 d6 d7;replace F0:=F0.below b3;replace o1:=o1.below b3;replace bw2:=bw2.trans (b3.mono bw2.size);rw [hY] at hB1 hoY;clear b3 b0 hY w2;refine (zaa5 ⟨2,ix,⟨x1,x2,x3,x4,x5⟩⟩ _).mono ?_;rintro e W4 ⟨rfl,hgr⟩;rw [hin];replace F0:=F0.below hgr;replace A0:=A0.below hgr;replace o1:=o1.below hgr;replace bw2:=bw2.trans (hgr.mono bw2.size);clear hgr W3;obtain ⟨s0,s1,s2,-,-⟩:=F0.s;obtain ⟨d0,d1,d2,d3,d4,d5,d6,d7⟩:=F0.d;simp only at d1 d2 d3 d4 d5 d6 d7;go_wp2_with fail;refine (zaac (ix) 0 ((l.length:Int) - 1) _).mono ?_;rintro e W4' ⟨rfl,hww⟩;obtain rfl:=hww;rw [hth];go_wp2_with fail
 go_quiet (fail)
 obtain ⟨V,hV⟩:=qM (W4.drewN nq)
 have bV:Below W4.heap.size W4 V:=by rw [hV];exact below_drewN (Below.refl _ _) _
 rw [← hV];replace F0:=F0.below bV;replace A0:=A0.below bV;replace o1:=o1.below bV;replace bw2:=bw2.trans (bV.mono bw2.size);clear hV bV s0 s1 s2 d0 d1 d2 d3 d4 d5 d6 d7 W4;obtain ⟨s0,s1,s2,-,-⟩:=F0.s;obtain ⟨d0,d1,d2,d3,d4,d5,d6,d7⟩:=F0.d;simp only at d1 d2 d3 d4 d5 d6 d7;go_wp2_with fail;refine (zaah _ _ st l _ hl (hs.below bw2)).mono ?_;rintro e w7 ⟨v7,rfl,o7,b7⟩;obtain ⟨a7,c7,rfl⟩:=o7.sl;clear s0 s1 s2;have hX7:=F0.r.lt;have hB7:=bw2.size;replace F0:=F0.below b7;replace bw2:=bw2.trans (b7.mono bw2.size);obtain ⟨r0,r1,r2,r3,r4⟩:=F0.r;clear b7 F0;go_wp2_with fail;have oF:=((o7.setCell (p:=⟨X+1+1,0,none⟩) hX7 (.int .i64 st)).setCell (p:=⟨X+1+1,1,none⟩) hX7 (.slice a7 l.length c7)).mono hB7;have bF:Below w.heap.size w ((w7.setCell ⟨X+1+1,0,none⟩ (.int .i64 st)).setCell ⟨X+1+1,1,none⟩ (.slice a7 l.length c7)):=(bw2.setCell (by show _≤X+1+1;omega) _).setCell (by show _≤X+1+1;omega) _;refine bodyPost_ret (v:=.tuple #[.agg #[.int .i64 st,.slice a7 l.length c7],.bool false]) (by simp [results,Tryz.results86,go_sem,r1,r2]) rfl ?_;rw [hno]
 exact ⟨_,rfl,oF,bF⟩
theorem zapf (a:Option Addr) (c:Nat) (st:Int) (l:List Lg) (ix:Int) (g:Lg) (w:World) (hl:l.length≤1048576) (hs:Legs w a l) (hv:svOk ⟨st,l⟩=true) (hin:ddIn ⟨3,ix,g⟩=true) (hth:inB ix 0 ((l.length:Int) - 1)=false) (hno:ddDo ⟨st,l⟩ ⟨3,ix,g⟩=(⟨st,l⟩,false)) :
 Calls Tryz.prog 86 #[.agg #[.int .i64 st,.slice a l.length c],(⟨3,ix,g⟩:Dd).val] w (SvOut (ddDo ⟨st,l⟩ ⟨3,ix,g⟩) w):=by
 obtain ⟨x1,x2,x3,x4,x5⟩:=g
 show Calls Tryz.prog 86 #[.agg #[.int .i64 st,.slice a l.length c],.agg #[.int .i64 3,.int .i64 ix,.int .i64 x1,.int .i64 x2,.int .i64 x3,.int .i64 x4,.int .i64 x5]] w _
 go_enter Tryz.func86,Tryz.ntmps86
 go_wp2_with fail;obtain ⟨X,hX⟩:=qN (w.heap.size);obtain ⟨W0,hW0⟩:=qM (((w.alloc (.cells #[.int .i64 st,.slice a l.length c] 25)).alloc (.cells #[.int .i64 3,.int .i64 ix,.int .i64 x1,.int .i64 x2,.int .i64 x3,.int .i64 x4,.int .i64 x5] 82)).alloc (.cells #[.int .i64 0,.slice none 0 0] 25))
 have F0:Fr W0 X st (.slice a l.length c) ⟨3,ix,⟨x1,x2,x3,x4,x5⟩⟩:=by rw [hW0,← hX];exact Fr.new w st _ ⟨3,ix,⟨x1,x2,x3,x4,x5⟩⟩ _ _ _
 have b0:Below w.heap.size w W0:=by rw [hW0];exact qBl
 rw [hX,← hW0];clear hW0;refine (zaaa _ _ st l _ hl (hs.below b0)).mono ?_;rintro e w1 ⟨rfl,b1⟩;rw [hv];replace F0:=F0.below b1;replace b0:=b0.trans (b1.mono b0.size);clear b1 W0;obtain ⟨s0,s1,s2,-,-⟩:=F0.s;go_wp2_with fail;clear s0 s1 s2;have hX1:=F0.r.lt;refine (zaah _ _ st l _ hl (hs.below b0)).mono ?_;rintro e w2 ⟨v,rfl,o1,b1⟩;obtain ⟨av,cv,rfl⟩:=o1.sl;replace F0:=F0.below b1;have bw2:=b0.trans (b1.mono b0.size);have hB1:w1.heap.size≤w2.heap.size:=b1.size;have hBw:=b0.size
 have hoY:∀ k,(Value.slice av l.length cv).ownBlock=some k→k<w2.heap.size:=fun k hk=>(o1.lt hk).2
 clear b1;obtain ⟨d0,d1,d2,d3,d4,d5,d6,d7⟩:=F0.d;simp only at d1 d2 d3 d4 d5 d6 d7;go_wp2_with fail;obtain ⟨Y,hY⟩:=qN (w2.heap.size);obtain ⟨W3,hW3⟩:=qM (w2.alloc (.cells #[.int .i64 st,.slice av l.length cv] 25))
 have A0:AtS W3 Y st (.slice av l.length cv):=by rw [hW3,← hY];exact AtS.new w2 st _ _
 have b3:Below w2.heap.size w2 W3:=by rw [hW3];exact qBl
 rw [hY,← hW3];clear hW3 d0 d1 d2 d3 d4 d5 d6 d7;replace F0:=F0.below b3;replace o1:=o1.below b3;replace bw2:=bw2.trans (b3.mono bw2.size);rw [hY] at hB1 hoY;clear b3 b0 hY w2;refine (zaa5 ⟨3,ix,⟨x1,x2,x3,x4,x5⟩⟩ _).mono ?_;rintro e W4 ⟨rfl,hgr⟩;rw [hin];replace F0:=F0.below hgr;replace A0:=A0.below hgr;replace o1:=o1.below hgr;replace bw2:=bw2.trans (hgr.mono bw2.size);clear hgr W3;obtain ⟨s0,s1,s2,-,-⟩:=F0.s;obtain ⟨d0,d1,d2,d3,d4,d5,d6,d7⟩:=F0.d;simp only at d1 d2 d3 d4 d5 d6 d7;go_wp2_with fail;refine (zaac (ix) 0 ((l.length:Int) - 1) _).mono ?_;rintro e W4' ⟨rfl,hww⟩;obtain rfl:=hww;rw [hth];go_wp2_with fail
 go_quiet (fail)
 obtain ⟨V,hV⟩:=qM (W4.drewN nq)
 have bV:Below W4.heap.size W4 V:=by rw [hV];exact below_drewN (Below.refl _ _) _
 rw [← hV];replace F0:=F0.below bV;replace A0:=A0.below bV;replace o1:=o1.below bV;replace bw2:=bw2.trans (bV.mono bw2.size);clear hV bV s0 s1 s2 d0 d1 d2 d3 d4 d5 d6 d7 W4;obtain ⟨s0,s1,s2,-,-⟩:=F0.s;obtain ⟨d0,d1,d2,d3,d4,d5,d6,d7⟩:=F0.d;simp only at d1 d2 d3 d4 d5 d6 d7;go_wp2_with fail;refine (zaah _ _ st l _ hl (hs.below bw2)).mono ?_;rintro e w7 ⟨v7,rfl,o7,b7⟩;obtain ⟨a7,c7,rfl⟩:=o7.sl;clear s0 s1 s2;have hX7:=F0.r.lt;have hB7:=bw2.size;replace F0:=F0.below b7;replace bw2:=bw2.trans (b7.mono bw2.size);obtain ⟨r0,r1,r2,r3,r4⟩:=F0.r;clear b7 F0;go_wp2_with fail;have oF:=((o7.setCell (p:=⟨X+1+1,0,none⟩) hX7 (.int .i64 st)).setCell (p:=⟨X+1+1,1,none⟩) hX7 (.slice a7 l.length c7)).mono hB7;have bF:Below w.heap.size w ((w7.setCell ⟨X+1+1,0,none⟩ (.int .i64 st)).setCell ⟨X+1+1,1,none⟩ (.slice a7 l.length c7)):=(bw2.setCell (by show _≤X+1+1;omega) _).setCell (by show _≤X+1+1;omega) _;refine bodyPost_ret (v:=.tuple #[.agg #[.int .i64 st,.slice a7 l.length c7],.bool false]) (by simp [results,Tryz.results86,go_sem,r1,r2]) rfl ?_;rw [hno]
 exact ⟨_,rfl,oF,bF⟩
theorem zanr (a:Option Addr) (c:Nat) (st:Int) (l:List Lg) (g:Lg) (w:World) (hl:l.length≤1048576) (hs:Legs w a l) (hv:svOk ⟨st,l⟩=true) (hin:ddIn ⟨4,0,g⟩=true) (ht:ddTry ⟨st,l⟩ ⟨4,0,g⟩=some ⟨st+1,l⟩) (hst:1≤st∧st≤6) :
 Calls Tryz.prog 86 #[.agg #[.int .i64 st,.slice a l.length c],(⟨4,0,g⟩:Dd).val] w (SvOut (ddDo ⟨st,l⟩ ⟨4,0,g⟩) w):=by
 obtain ⟨x1,x2,x3,x4,x5⟩:=g
 show Calls Tryz.prog 86 #[.agg #[.int .i64 st,.slice a l.length c],.agg #[.int .i64 4,.int .i64 0,.int .i64 x1,.int .i64 x2,.int .i64 x3,.int .i64 x4,.int .i64 x5]] w _
 obtain ⟨hst1,hst2⟩:=hst
 go_enter Tryz.func86,Tryz.ntmps86
 go_wp2_with fail;obtain ⟨X,hX⟩:=qN (w.heap.size);obtain ⟨W0,hW0⟩:=qM (((w.alloc (.cells #[.int .i64 st,.slice a l.length c] 25)).alloc (.cells #[.int .i64 4,.int .i64 0,.int .i64 x1,.int .i64 x2,.int .i64 x3,.int .i64 x4,.int .i64 x5] 82)).alloc (.cells #[.int .i64 0,.slice none 0 0] 25))
 have F0:Fr W0 X st (.slice a l.length c) ⟨4,0,⟨x1,x2,x3,x4,x5⟩⟩:=by rw [hW0,← hX];exact Fr.new w st _ ⟨4,0,⟨x1,x2,x3,x4,x5⟩⟩ _ _ _
 have b0:Below w.heap.size w W0:=by rw [hW0];exact qBl
 rw [hX,← hW0];clear hW0;refine (zaaa _ _ st l _ hl (hs.below b0)).mono ?_;rintro e w1 ⟨rfl,b1⟩;rw [hv];replace F0:=F0.below b1;replace b0:=b0.trans (b1.mono b0.size);clear b1 W0;obtain ⟨s0,s1,s2,-,-⟩:=F0.s;go_wp2_with fail;clear s0 s1 s2;have hX1:=F0.r.lt;refine (zaah _ _ st l _ hl (hs.below b0)).mono ?_;rintro e w2 ⟨v,rfl,o1,b1⟩;obtain ⟨av,cv,rfl⟩:=o1.sl;replace F0:=F0.below b1;have bw2:=b0.trans (b1.mono b0.size);have hB1:w1.heap.size≤w2.heap.size:=b1.size;have hBw:=b0.size
 have hoY:∀ k,(Value.slice av l.length cv).ownBlock=some k→k<w2.heap.size:=fun k hk=>(o1.lt hk).2
 clear b1;obtain ⟨d0,d1,d2,d3,d4,d5,d6,d7⟩:=F0.d;simp only at d1 d2 d3 d4 d5 d6 d7;go_wp2_with fail;obtain ⟨Y,hY⟩:=qN (w2.heap.size);obtain ⟨W3,hW3⟩:=qM (w2.alloc (.cells #[.int .i64 st,.slice av l.length cv] 25))
 have A0:AtS W3 Y st (.slice av l.length cv):=by rw [hW3,← hY];exact AtS.new w2 st _ _
 have b3:Below w2.heap.size w2 W3:=by rw [hW3];exact qBl
 rw [hY,← hW3];clear hW3 d0 d1 d2 d3 d4 d5 d6 d7;replace F0:=F0.below b3;replace o1:=o1.below b3;replace bw2:=bw2.trans (b3.mono bw2.size);rw [hY] at hB1 hoY;clear b3 b0 hY w2;refine (zaa5 ⟨4,0,⟨x1,x2,x3,x4,x5⟩⟩ _).mono ?_;rintro e W4 ⟨rfl,hgr⟩;rw [hin];replace F0:=F0.below hgr;replace A0:=A0.below hgr;replace o1:=o1.below hgr;replace bw2:=bw2.trans (hgr.mono bw2.size);clear hgr W3;obtain ⟨s0,s1,s2,-,-⟩:=F0.s;obtain ⟨d0,d1,d2,d3,d4,d5,d6,d7⟩:=F0.d;simp only at d1 d2 d3 d4 d5 d6 d7;go_wp2_with fail;refine (zaac (0) 0 ((l.length:Int) - 1) _).mono ?_;rintro e W4' ⟨rfl,hww⟩;obtain rfl:=hww;go_wp2_with fail
 go_quiet (fail)
 obtain ⟨V,hV⟩:=qM (W4.drewN nq)
 have bV:Below W4.heap.size W4 V:=by rw [hV];exact below_drewN (Below.refl _ _) _
 rw [← hV];replace F0:=F0.below bV;replace A0:=A0.below bV;replace o1:=o1.below bV;replace bw2:=bw2.trans (bV.mono bw2.size);clear hV bV s0 s1 s2 d0 d1 d2 d3 d4 d5 d6 d7 W4;obtain ⟨s0,s1,s2,-,-⟩:=F0.s;obtain ⟨d0,d1,d2,d3,d4,d5,d6,d7⟩:=F0.d;simp only at d1 d2 d3 d4 d5 d6 d7;obtain ⟨a0,a1,a2,a3,a4⟩:=id A0;go_wp2_with fail;obtain ⟨W5,hW5⟩:=qM (V.setCell ⟨Y,0,none⟩ (.int .i64 (st+1)));rw [← hW5]
 have hYs:(Value.slice av l.length cv).ownBlock≠some Y:=fun h=>absurd (hoY _ h) (Nat.lt_irrefl _)
 have b5:Below w1.heap.size V W5:=by rw [hW5];exact (Below.refl _ _).setCell (by show _≤Y;omega) _
 have F5:=F0.belowB b5 hX1
 have A5:AtS W5 Y (st+1) (.slice av l.length cv):=by rw [hW5];exact A0.set0 _
 have o5:OwnL W5 w1.heap.size (.slice av l.length cv) l:=by rw [hW5];exact o1.setOther (p:=⟨Y,0,none⟩) hYs _
 have bw5:=bw2.trans (b5.mono hBw);clear hW5 b5 F0 A0 o1 bw2 a0 a1 a2 a3 a4 s0 s1 s2 d0 d1 d2 d3 d4 d5 d6 d7 V;have hlz:=hl;have hlz:l.length≤1048576:=hlz;obtain ⟨s0,s1,s2,-,-⟩:=F5.s;have HT:=Lib.hid ht;clear ht;refine (zaaa _ _ (st+1) l _ hlz (by obtain ⟨_,_,e,_,_,hr⟩:=o5.rd;cases e;exact hr)).mono ?_;rintro e w6 ⟨rfl,b6⟩;clear s0 s1 s2
 cases hk:svOk ⟨st+1,l⟩
 · replace F5:=F5.below b6
   replace bw5:=bw5.trans (b6.mono bw5.size);clear b6 o5 A5;obtain ⟨s0,s1,s2,-,-⟩:=F5.s;go_wp2_with fail;refine (zaah _ _ st l _ hl (hs.below bw5)).mono ?_;rintro e w7 ⟨v7,rfl,o7,b7⟩;obtain ⟨a7,c7,rfl⟩:=o7.sl;clear s0 s1 s2;have hX7:=F5.r.lt;have hB7:=bw5.size;replace F5:=F5.below b7;replace bw5:=bw5.trans (b7.mono bw5.size);obtain ⟨r0,r1,r2,r3,r4⟩:=F5.r;clear b7 F5;go_wp2_with fail;have oF:=((o7.setCell (p:=⟨X+1+1,0,none⟩) hX7 (.int .i64 st)).setCell (p:=⟨X+1+1,1,none⟩) hX7 (.slice a7 l.length c7)).mono hB7;have bF:Below w.heap.size w ((w7.setCell ⟨X+1+1,0,none⟩ (.int .i64 st)).setCell ⟨X+1+1,1,none⟩ (.slice a7 l.length c7)):=(bw5.setCell (by show _≤X+1+1;omega) _).setCell (by show _≤X+1+1;omega) _;refine bodyPost_ret (v:=.tuple #[.agg #[.int .i64 st,.slice a7 l.length c7],.bool false]) (by simp [results,Tryz.results86,go_sem,r1,r2]) rfl ?_;rw [zaa2 hv HT.out hk]
   exact ⟨_,rfl,oF,bF⟩
 · replace F5:=F5.below b6
   replace bw5:=bw5.trans (b6.mono bw5.size);replace o5:=o5.below b6;replace A5:=A5.below b6;clear b6;obtain ⟨r0,r1,r2,r3,r4⟩:=F5.r;obtain ⟨a0,a1,a2,a3,a4⟩:=A5;go_wp2_with fail;have oF:=((o5.setCell (p:=⟨X+1+1,0,none⟩) hX1 (.int .i64 (st+1))).setCell (p:=⟨X+1+1,1,none⟩) hX1 (.slice av l.length cv)).mono hBw;have bF:Below w.heap.size w ((w6.setCell ⟨X+1+1,0,none⟩ (.int .i64 (st+1))).setCell ⟨X+1+1,1,none⟩ (.slice av l.length cv)):=(bw5.setCell (by show _≤X+1+1;omega) _).setCell (by show _≤X+1+1;omega) _;refine bodyPost_ret (v:=.tuple #[.agg #[.int .i64 (st+1),.slice av l.length cv],.bool true]) (by simp [results,Tryz.results86,go_sem,r1,r2]) rfl ?_;rw [zaa9 hv HT.out hk]
   exact ⟨_,rfl,oF,bF⟩
theorem zans (a:Option Addr) (c:Nat) (st:Int) (l:List Lg) (g:Lg) (w:World) (hl:l.length≤1048576) (hs:Legs w a l) (hv:svOk ⟨st,l⟩=true) (hin:ddIn ⟨5,0,g⟩=true) (ht:ddTry ⟨st,l⟩ ⟨5,0,g⟩=some ⟨st - 1,l⟩) (hst:1≤st∧st≤6) :
 Calls Tryz.prog 86 #[.agg #[.int .i64 st,.slice a l.length c],(⟨5,0,g⟩:Dd).val] w (SvOut (ddDo ⟨st,l⟩ ⟨5,0,g⟩) w):=by
 obtain ⟨x1,x2,x3,x4,x5⟩:=g
 show Calls Tryz.prog 86 #[.agg #[.int .i64 st,.slice a l.length c],.agg #[.int .i64 5,.int .i64 0,.int .i64 x1,.int .i64 x2,.int .i64 x3,.int .i64 x4,.int .i64 x5]] w _
 obtain ⟨hst1,hst2⟩:=hst
 go_enter Tryz.func86,Tryz.ntmps86
 go_wp2_with fail;obtain ⟨X,hX⟩:=qN (w.heap.size);obtain ⟨W0,hW0⟩:=qM (((w.alloc (.cells #[.int .i64 st,.slice a l.length c] 25)).alloc (.cells #[.int .i64 5,.int .i64 0,.int .i64 x1,.int .i64 x2,.int .i64 x3,.int .i64 x4,.int .i64 x5] 82)).alloc (.cells #[.int .i64 0,.slice none 0 0] 25))
 have F0:Fr W0 X st (.slice a l.length c) ⟨5,0,⟨x1,x2,x3,x4,x5⟩⟩:=by rw [hW0,← hX];exact Fr.new w st _ ⟨5,0,⟨x1,x2,x3,x4,x5⟩⟩ _ _ _
 have b0:Below w.heap.size w W0:=by rw [hW0];exact qBl
 rw [hX,← hW0];clear hW0;refine (zaaa _ _ st l _ hl (hs.below b0)).mono ?_;rintro e w1 ⟨rfl,b1⟩;rw [hv];replace F0:=F0.below b1;replace b0:=b0.trans (b1.mono b0.size);clear b1 W0;obtain ⟨s0,s1,s2,-,-⟩:=F0.s;go_wp2_with fail;clear s0 s1 s2;have hX1:=F0.r.lt;refine (zaah _ _ st l _ hl (hs.below b0)).mono ?_;rintro e w2 ⟨v,rfl,o1,b1⟩;obtain ⟨av,cv,rfl⟩:=o1.sl;replace F0:=F0.below b1;have bw2:=b0.trans (b1.mono b0.size);have hB1:w1.heap.size≤w2.heap.size:=b1.size;have hBw:=b0.size
 have hoY:∀ k,(Value.slice av l.length cv).ownBlock=some k→k<w2.heap.size:=fun k hk=>(o1.lt hk).2
 clear b1;obtain ⟨d0,d1,d2,d3,d4,d5,d6,d7⟩:=F0.d;simp only at d1 d2 d3 d4 d5 d6 d7;go_wp2_with fail;obtain ⟨Y,hY⟩:=qN (w2.heap.size);obtain ⟨W3,hW3⟩:=qM (w2.alloc (.cells #[.int .i64 st,.slice av l.length cv] 25))
 have A0:AtS W3 Y st (.slice av l.length cv):=by rw [hW3,← hY];exact AtS.new w2 st _ _
 have b3:Below w2.heap.size w2 W3:=by rw [hW3];exact qBl
 rw [hY,← hW3];clear hW3 d0 d1 d2 d3 d4 d5 d6 d7;replace F0:=F0.below b3;replace o1:=o1.below b3;replace bw2:=bw2.trans (b3.mono bw2.size);rw [hY] at hB1 hoY;clear b3 b0 hY w2;refine (zaa5 ⟨5,0,⟨x1,x2,x3,x4,x5⟩⟩ _).mono ?_;rintro e W4 ⟨rfl,hgr⟩;rw [hin];replace F0:=F0.below hgr;replace A0:=A0.below hgr;replace o1:=o1.below hgr;replace bw2:=bw2.trans (hgr.mono bw2.size);clear hgr W3;obtain ⟨s0,s1,s2,-,-⟩:=F0.s;obtain ⟨d0,d1,d2,d3,d4,d5,d6,d7⟩:=F0.d;simp only at d1 d2 d3 d4 d5 d6 d7;go_wp2_with fail;refine (zaac (0) 0 ((l.length:Int) - 1) _).mono ?_;rintro e W4' ⟨rfl,hww⟩;obtain rfl:=hww;go_wp2_with fail
 go_quiet (fail)
 obtain ⟨V,hV⟩:=qM (W4.drewN nq)
 have bV:Below W4.heap.size W4 V:=by rw [hV];exact below_drewN (Below.refl _ _) _
 rw [← hV];replace F0:=F0.below bV;replace A0:=A0.below bV;replace o1:=o1.below bV;replace bw2:=bw2.trans (bV.mono bw2.size);clear hV bV s0 s1 s2 d0 d1 d2 d3 d4 d5 d6 d7 W4;obtain ⟨s0,s1,s2,-,-⟩:=F0.s;obtain ⟨d0,d1,d2,d3,d4,d5,d6,d7⟩:=F0.d;simp only at d1 d2 d3 d4 d5 d6 d7;obtain ⟨a0,a1,a2,a3,a4⟩:=id A0;go_wp2_with fail;obtain ⟨W5,hW5⟩:=qM (V.setCell ⟨Y,0,none⟩ (.int .i64 (st - 1)));rw [← hW5]
 have hYs:(Value.slice av l.length cv).ownBlock≠some Y:=fun h=>absurd (hoY _ h) (Nat.lt_irrefl _)
 have b5:Below w1.heap.size V W5:=by rw [hW5];exact (Below.refl _ _).setCell (by show _≤Y;omega) _
 have F5:=F0.belowB b5 hX1
 have A5:AtS W5 Y (st - 1) (.slice av l.length cv):=by rw [hW5];exact A0.set0 _
 have o5:OwnL W5 w1.heap.size (.slice av l.length cv) l:=by rw [hW5];exact o1.setOther (p:=⟨Y,0,none⟩) hYs _
 have bw5:=bw2.trans (b5.mono hBw);clear hW5 b5 F0 A0 o1 bw2 a0 a1 a2 a3 a4 s0 s1 s2 d0 d1 d2 d3 d4 d5 d6 d7 V;have hlz:=hl;have hlz:l.length≤1048576:=hlz;obtain ⟨s0,s1,s2,-,-⟩:=F5.s;have HT:=Lib.hid ht;clear ht;refine (zaaa _ _ (st - 1) l _ hlz (by obtain ⟨_,_,e,_,_,hr⟩:=o5.rd;cases e;exact hr)).mono ?_;rintro e w6 ⟨rfl,b6⟩;clear s0 s1 s2
 cases hk:svOk ⟨st - 1,l⟩
 · replace F5:=F5.below b6
   replace bw5:=bw5.trans (b6.mono bw5.size);clear b6 o5 A5;obtain ⟨s0,s1,s2,-,-⟩:=F5.s;go_wp2_with fail;refine (zaah _ _ st l _ hl (hs.below bw5)).mono ?_;rintro e w7 ⟨v7,rfl,o7,b7⟩;obtain ⟨a7,c7,rfl⟩:=o7.sl;clear s0 s1 s2;have hX7:=F5.r.lt;have hB7:=bw5.size;replace F5:=F5.below b7;replace bw5:=bw5.trans (b7.mono bw5.size);obtain ⟨r0,r1,r2,r3,r4⟩:=F5.r;clear b7 F5;go_wp2_with fail;have oF:=((o7.setCell (p:=⟨X+1+1,0,none⟩) hX7 (.int .i64 st)).setCell (p:=⟨X+1+1,1,none⟩) hX7 (.slice a7 l.length c7)).mono hB7;have bF:Below w.heap.size w ((w7.setCell ⟨X+1+1,0,none⟩ (.int .i64 st)).setCell ⟨X+1+1,1,none⟩ (.slice a7 l.length c7)):=(bw5.setCell (by show _≤X+1+1;omega) _).setCell (by show _≤X+1+1;omega) _;refine bodyPost_ret (v:=.tuple #[.agg #[.int .i64 st,.slice a7 l.length c7],.bool false]) (by simp [results,Tryz.results86,go_sem,r1,r2]) rfl ?_;rw [zaa2 hv HT.out hk]
   exact ⟨_,rfl,oF,bF⟩
 · replace F5:=F5.below b6
   replace bw5:=bw5.trans (b6.mono bw5.size);replace o5:=o5.below b6;replace A5:=A5.below b6;clear b6;obtain ⟨r0,r1,r2,r3,r4⟩:=F5.r;obtain ⟨a0,a1,a2,a3,a4⟩:=A5;go_wp2_with fail;have oF:=((o5.setCell (p:=⟨X+1+1,0,none⟩) hX1 (.int .i64 (st - 1))).setCell (p:=⟨X+1+1,1,none⟩) hX1 (.slice av l.length cv)).mono hBw;have bF:Below w.heap.size w ((w6.setCell ⟨X+1+1,0,none⟩ (.int .i64 (st - 1))).setCell ⟨X+1+1,1,none⟩ (.slice av l.length cv)):=(bw5.setCell (by show _≤X+1+1;omega) _).setCell (by show _≤X+1+1;omega) _;refine bodyPost_ret (v:=.tuple #[.agg #[.int .i64 (st - 1),.slice av l.length cv],.bool true]) (by simp [results,Tryz.results86,go_sem,r1,r2]) rfl ?_;rw [zaa9 hv HT.out hk]
   exact ⟨_,rfl,oF,bF⟩
set_option maxHeartbeats 2000000
theorem zapg (a:Option Addr) (c:Nat) (st:Int) (l:List Lg) (i:Nat) (hi:i<l.length) (hl9:l.length≤9) (g:Lg) (w:World) (hl:l.length≤1048576) (hs:Legs w a l) (hv:svOk ⟨st,l⟩=true) (hin:ddIn ⟨3,(i:Int),g⟩=true) (hth:inB (i:Int) 0 ((l.length:Int) - 1)=true) (heq:g=nth l i) (hno:ddDo ⟨st,l⟩ ⟨3,(i:Int),g⟩=(⟨st,l⟩,false)) :
 Calls Tryz.prog 86 #[.agg #[.int .i64 st,.slice a l.length c],(⟨3,(i:Int),g⟩:Dd).val] w (SvOut (ddDo ⟨st,l⟩ ⟨3,(i:Int),g⟩) w):=by
 have heq2:=zacx (nth l i) g;rw [decide_eq_true heq.symm] at heq2;clear heq;obtain ⟨x1,x2,x3,x4,x5⟩:=g
 show Calls Tryz.prog 86 #[.agg #[.int .i64 st,.slice a l.length c],.agg #[.int .i64 3,.int .i64 (i:Int),.int .i64 x1,.int .i64 x2,.int .i64 x3,.int .i64 x4,.int .i64 x5]] w _
 simp only at heq2
 go_enter Tryz.func86,Tryz.ntmps86
 go_wp2_with fail;obtain ⟨X,hX⟩:=qN (w.heap.size);obtain ⟨W0,hW0⟩:=qM (((w.alloc (.cells #[.int .i64 st,.slice a l.length c] 25)).alloc (.cells #[.int .i64 3,.int .i64 (i:Int),.int .i64 x1,.int .i64 x2,.int .i64 x3,.int .i64 x4,.int .i64 x5] 82)).alloc (.cells #[.int .i64 0,.slice none 0 0] 25))
 have F0:Fr W0 X st (.slice a l.length c) ⟨3,(i:Int),⟨x1,x2,x3,x4,x5⟩⟩:=by rw [hW0,← hX];exact Fr.new w st _ ⟨3,(i:Int),⟨x1,x2,x3,x4,x5⟩⟩ _ _ _
 have b0:Below w.heap.size w W0:=by rw [hW0];exact qBl
 rw [hX,← hW0];clear hW0;refine (zaaa _ _ st l _ hl (hs.below b0)).mono ?_;rintro e w1 ⟨rfl,b1⟩;rw [hv];replace F0:=F0.below b1;replace b0:=b0.trans (b1.mono b0.size);clear b1 W0;obtain ⟨s0,s1,s2,-,-⟩:=F0.s;go_wp2_with fail;clear s0 s1 s2;have hX1:=F0.r.lt;refine (zaah _ _ st l _ hl (hs.below b0)).mono ?_;rintro e w2 ⟨v,rfl,o1,b1⟩;obtain ⟨av,cv,rfl⟩:=o1.sl;replace F0:=F0.below b1;have bw2:=b0.trans (b1.mono b0.size);have hB1:w1.heap.size≤w2.heap.size:=b1.size;have hBw:=b0.size
 have hoY:∀ k,(Value.slice av l.length cv).ownBlock=some k→k<w2.heap.size:=fun k hk=>(o1.lt hk).2
 clear b1;obtain ⟨d0,d1,d2,d3,d4,d5,d6,d7⟩:=F0.d;simp only at d1 d2 d3 d4 d5 d6 d7;go_wp2_with fail;obtain ⟨Y,hY⟩:=qN (w2.heap.size);obtain ⟨W3,hW3⟩:=qM (w2.alloc (.cells #[.int .i64 st,.slice av l.length cv] 25))
 have A0:AtS W3 Y st (.slice av l.length cv):=by rw [hW3,← hY];exact AtS.new w2 st _ _
 have b3:Below w2.heap.size w2 W3:=by rw [hW3];exact qBl
 rw [hY,← hW3];clear hW3 d0 d1 d2 d3 d4 d5 d6 d7;replace F0:=F0.below b3;replace o1:=o1.below b3;replace bw2:=bw2.trans (b3.mono bw2.size);rw [hY] at hB1 hoY;clear b3 b0 hY w2;refine (zaa5 ⟨3,(i:Int),⟨x1,x2,x3,x4,x5⟩⟩ _).mono ?_;rintro e W4 ⟨rfl,hgr⟩;rw [hin];replace F0:=F0.below hgr;replace A0:=A0.below hgr;replace o1:=o1.below hgr;replace bw2:=bw2.trans (hgr.mono bw2.size);clear hgr W3;obtain ⟨s0,s1,s2,-,-⟩:=F0.s;obtain ⟨d0,d1,d2,d3,d4,d5,d6,d7⟩:=F0.d;simp only at d1 d2 d3 d4 d5 d6 d7;go_wp2_with fail;refine (zaac ((i:Int)) 0 ((l.length:Int) - 1) _).mono ?_;rintro e W4' ⟨rfl,hww⟩;obtain rfl:=hww;rw [hth];obtain ⟨bl,off,hae,hbl,m0,m1,m2,m3,m4⟩:=Legs.at (hs.below bw2) hi
 cases hae
 have hii:(i:Int)<(l.length:Int):=qO;have hE:=zah0 (nth l i).frm (nth l i).to (nth l i).east (nth l i).north (nth l i).up x1 x2 x3 x4 x5;rw [heq2] at hE;go_wp2_with fail
 go_quiet (fail)
 obtain ⟨V,hV⟩:=qM (W4.drewN nq)
 have bV:Below W4.heap.size W4 V:=by rw [hV];exact below_drewN (Below.refl _ _) _
 rw [← hV];replace F0:=F0.below bV;replace A0:=A0.below bV;replace o1:=o1.below bV;replace bw2:=bw2.trans (bV.mono bw2.size);clear hV bV hE heq2 m0 m1 m2 m3 m4 hbl s0 s1 s2 d0 d1 d2 d3 d4 d5 d6 d7 W4;obtain ⟨s0,s1,s2,-,-⟩:=F0.s;obtain ⟨d0,d1,d2,d3,d4,d5,d6,d7⟩:=F0.d;simp only at d1 d2 d3 d4 d5 d6 d7;go_wp2_with fail;refine (zaah _ _ st l _ hl (hs.below bw2)).mono ?_;rintro e w7 ⟨v7,rfl,o7,b7⟩;obtain ⟨a7,c7,rfl⟩:=o7.sl;clear s0 s1 s2;have hX7:=F0.r.lt;have hB7:=bw2.size;replace F0:=F0.below b7;replace bw2:=bw2.trans (b7.mono bw2.size);obtain ⟨r0,r1,r2,r3,r4⟩:=F0.r;clear b7 F0;go_wp2_with fail;have oF:=((o7.setCell (p:=⟨X+1+1,0,none⟩) hX7 (.int .i64 st)).setCell (p:=⟨X+1+1,1,none⟩) hX7 (.slice a7 l.length c7)).mono hB7;have bF:Below w.heap.size w ((w7.setCell ⟨X+1+1,0,none⟩ (.int .i64 st)).setCell ⟨X+1+1,1,none⟩ (.slice a7 l.length c7)):=(bw2.setCell (by show _≤X+1+1;omega) _).setCell (by show _≤X+1+1;omega) _;refine bodyPost_ret (v:=.tuple #[.agg #[.int .i64 st,.slice a7 l.length c7],.bool false]) (by simp [results,Tryz.results86,go_sem,r1,r2]) rfl ?_;rw [hno]
 exact ⟨_,rfl,oF,bF⟩
theorem zard (a:Option Addr) (c:Nat) (st:Int) (l:List Lg) (i:Nat) (hi:i<l.length) (hl9:l.length≤9) (g:Lg) (w:World) (hl:l.length≤1048576) (hs:Legs w a l) (hv:svOk ⟨st,l⟩=true) (hin:ddIn ⟨3,(i:Int),g⟩=true) (hth:inB (i:Int) 0 ((l.length:Int) - 1)=true) (hne:g≠nth l i) (ht:ddTry ⟨st,l⟩ ⟨3,(i:Int),g⟩=some ⟨st,l.set i g⟩) :
 Calls Tryz.prog 86 #[.agg #[.int .i64 st,.slice a l.length c],(⟨3,(i:Int),g⟩:Dd).val] w (SvOut (ddDo ⟨st,l⟩ ⟨3,(i:Int),g⟩) w):=by
 have heq2:=zacx (nth l i) g
 rw [decide_eq_false (fun e=>hne e.symm)] at heq2
 clear hne;obtain ⟨x1,x2,x3,x4,x5⟩:=g
 show Calls Tryz.prog 86 #[.agg #[.int .i64 st,.slice a l.length c],.agg #[.int .i64 3,.int .i64 (i:Int),.int .i64 x1,.int .i64 x2,.int .i64 x3,.int .i64 x4,.int .i64 x5]] w _
 simp only at heq2
 go_enter Tryz.func86,Tryz.ntmps86
 go_wp2_with fail;obtain ⟨X,hX⟩:=qN (w.heap.size);obtain ⟨W0,hW0⟩:=qM (((w.alloc (.cells #[.int .i64 st,.slice a l.length c] 25)).alloc (.cells #[.int .i64 3,.int .i64 (i:Int),.int .i64 x1,.int .i64 x2,.int .i64 x3,.int .i64 x4,.int .i64 x5] 82)).alloc (.cells #[.int .i64 0,.slice none 0 0] 25))
 have F0:Fr W0 X st (.slice a l.length c) ⟨3,(i:Int),⟨x1,x2,x3,x4,x5⟩⟩:=by rw [hW0,← hX];exact Fr.new w st _ ⟨3,(i:Int),⟨x1,x2,x3,x4,x5⟩⟩ _ _ _
 have b0:Below w.heap.size w W0:=by rw [hW0];exact qBl
 rw [hX,← hW0];clear hW0;refine (zaaa _ _ st l _ hl (hs.below b0)).mono ?_;rintro e w1 ⟨rfl,b1⟩;rw [hv];replace F0:=F0.below b1;replace b0:=b0.trans (b1.mono b0.size);clear b1 W0;obtain ⟨s0,s1,s2,-,-⟩:=F0.s;go_wp2_with fail;clear s0 s1 s2;have hX1:=F0.r.lt;refine (zaah _ _ st l _ hl (hs.below b0)).mono ?_;rintro e w2 ⟨v,rfl,o1,b1⟩;obtain ⟨av,cv,rfl⟩:=o1.sl;replace F0:=F0.below b1;have bw2:=b0.trans (b1.mono b0.size);have hB1:w1.heap.size≤w2.heap.size:=b1.size;have hBw:=b0.size
 have hoY:∀ k,(Value.slice av l.length cv).ownBlock=some k→k<w2.heap.size:=fun k hk=>(o1.lt hk).2
 clear b1;obtain ⟨d0,d1,d2,d3,d4,d5,d6,d7⟩:=F0.d;simp only at d1 d2 d3 d4 d5 d6 d7;go_wp2_with fail;obtain ⟨Y,hY⟩:=qN (w2.heap.size);obtain ⟨W3,hW3⟩:=qM (w2.alloc (.cells #[.int .i64 st,.slice av l.length cv] 25))
 have A0:AtS W3 Y st (.slice av l.length cv):=by rw [hW3,← hY];exact AtS.new w2 st _ _
 have b3:Below w2.heap.size w2 W3:=by rw [hW3];exact qBl
 rw [hY,← hW3];clear hW3 d0 d1 d2 d3 d4 d5 d6 d7;replace F0:=F0.below b3;replace o1:=o1.below b3;replace bw2:=bw2.trans (b3.mono bw2.size);rw [hY] at hB1 hoY;clear b3 b0 hY w2;refine (zaa5 ⟨3,(i:Int),⟨x1,x2,x3,x4,x5⟩⟩ _).mono ?_;rintro e W4 ⟨rfl,hgr⟩;rw [hin];replace F0:=F0.below hgr;replace A0:=A0.below hgr;replace o1:=o1.below hgr;replace bw2:=bw2.trans (hgr.mono bw2.size);clear hgr W3;obtain ⟨s0,s1,s2,-,-⟩:=F0.s;obtain ⟨d0,d1,d2,d3,d4,d5,d6,d7⟩:=F0.d;simp only at d1 d2 d3 d4 d5 d6 d7;go_wp2_with fail;refine (zaac ((i:Int)) 0 ((l.length:Int) - 1) _).mono ?_;rintro e W4' ⟨rfl,hww⟩;obtain rfl:=hww;rw [hth];obtain ⟨bl,off,hae,hbl,m0,m1,m2,m3,m4⟩:=Legs.at (hs.below bw2) hi
 cases hae
 have hii:(i:Int)<(l.length:Int):=qO;have hE:=zah0 (nth l i).frm (nth l i).to (nth l i).east (nth l i).north (nth l i).up x1 x2 x3 x4 x5;rw [heq2] at hE;go_wp2_with fail
 go_quiet (fail)
 obtain ⟨V,hV⟩:=qM (W4.drewN nq)
 have bV:Below W4.heap.size W4 V:=by rw [hV];exact below_drewN (Below.refl _ _) _
 rw [← hV];replace F0:=F0.below bV;replace A0:=A0.below bV;replace o1:=o1.below bV;replace bw2:=bw2.trans (bV.mono bw2.size);clear hV bV hE heq2 m0 m1 m2 m3 m4 hbl s0 s1 s2 d0 d1 d2 d3 d4 d5 d6 d7 W4;obtain ⟨s0,s1,s2,-,-⟩:=F0.s;obtain ⟨d0,d1,d2,d3,d4,d5,d6,d7⟩:=F0.d;simp only at d1 d2 d3 d4 d5 d6 d7;obtain ⟨G,cap,e,hBG,hn,hm,hrow⟩:=o1.krow qO
 cases e
 have hGY:G<Y:=hoY G rfl;have hput:=hrow.put i [⟨x1,x2,x3,x4,x5⟩]
 have hF:∀ k,k<(l.set i ⟨x1,x2,x3,x4,x5⟩).length→(fun k=>if i≤k∧k<i+[(⟨x1,x2,x3,x4,x5⟩:Lg)].length then some (nth [(⟨x1,x2,x3,x4,x5⟩:Lg)] (k - i)) else (fun k=>if k<l.length then some (nth l k) else none) k) k=some (nth (l.set i ⟨x1,x2,x3,x4,x5⟩) k):=by
  intro k hk;simp only [List.length_set] at hk;simp only [List.length_cons,List.length_nil];rw [zaav hk]
  by_cases e:i=k
  · subst e;rw [if_pos qO,if_pos rfl];simp [nth]
  · rw [if_neg qO,if_pos hk,if_neg e]
 obtain ⟨zs,hzs⟩:=qM (l.set i ⟨x1,x2,x3,x4,x5⟩)
 have hlen:zs.length=l.length:=by rw [hzs];simp
 have hlz:zs.length≤1048576:=by rw [hlen];exact hl
 rw [← hzs] at ht hF;have oP:=hput.own hBG zs qO hm hF;rw [hlen] at oP;have HZ:=Lib.hid hlen;have HO:=Lib.hid oP;have t0:=hrow.at (k:=i) (r:=0) (show i<cv by omega) (by rw [if_pos hi]) rfl;have t1:=hrow.at (k:=i) (r:=1) (show i<cv by omega) (by rw [if_pos hi]) rfl;have t2:=hrow.at (k:=i) (r:=2) (show i<cv by omega) (by rw [if_pos hi]) rfl;have t3:=hrow.at (k:=i) (r:=3) (show i<cv by omega) (by rw [if_pos hi]) rfl;have t4:=hrow.at (k:=i) (r:=4) (show i<cv by omega) (by rw [if_pos hi]) rfl;have hfz:=hrow.free;have tsz:legK.sz=5:=rfl;rw [tsz] at t0 t1 t2 t3 t4;rw [Nat.add_zero] at t0;clear tsz hF oP hlen hzs;obtain ⟨a0,a1,a2,a3,a4⟩:=id A0;go_wp2_with fail;obtain ⟨W5,hW5⟩:=qM ((((((V.setCell ⟨G,i*5,none⟩ (.int .i64 x1)).setCell ⟨G,i*5+1,none⟩ (.int .i64 x2)).setCell ⟨G,i*5+2,none⟩ (.int .i64 x3)).setCell ⟨G,i*5+3,none⟩ (.int .i64 x4)).setCell ⟨G,i*5+4,none⟩ (.int .i64 x5)));rw [← hW5];have eW5:W5=V.setCells G (i*legK.sz) (legK.flat [⟨x1,x2,x3,x4,x5⟩]):=hW5
 have b5:Below w1.heap.size V W5:=by rw [eW5];exact zabp G hBG _ _ _ (Below.refl _ _)
 have F5:=F0.belowB b5 hX1;have A5:AtS W5 Y st (.slice (some ⟨G,0,none⟩) l.length cv):=A0.block (by rw [eW5];exact (zabx _ _ _).2.2.2.2 Y qO)
 have o5:OwnL W5 w1.heap.size (.slice (some ⟨G,0,none⟩) zs.length cv) zs:=by rw [eW5,HZ.out];exact HO.out
 have bw5:=bw2.trans (b5.mono hBw);rw [← HZ.out] at A5;have HE:(l.length=zs.length):=HZ.out.symm;rw [HE];clear HE;clear hW5 eW5 b5 F0 A0 o1 bw2 hput hrow HO t0 t1 t2 t3 t4 hfz a0 a1 a2 a3 a4 s0 s1 s2 d0 d1 d2 d3 d4 d5 d6 d7 V;have hlz:zs.length≤1048576:=hlz;obtain ⟨s0,s1,s2,-,-⟩:=F5.s;have HT:=Lib.hid ht;clear ht;refine (zaaa _ _ (st) zs _ hlz (by obtain ⟨_,_,e,_,_,hr⟩:=o5.rd;cases e;exact hr)).mono ?_;rintro e w6 ⟨rfl,b6⟩;clear s0 s1 s2
 cases hk:svOk ⟨st,zs⟩
 · replace F5:=F5.below b6
   replace bw5:=bw5.trans (b6.mono bw5.size);clear b6 o5 A5;obtain ⟨s0,s1,s2,-,-⟩:=F5.s;go_wp2_with fail;refine (zaah _ _ st l _ hl (hs.below bw5)).mono ?_;rintro e w7 ⟨v7,rfl,o7,b7⟩;obtain ⟨a7,c7,rfl⟩:=o7.sl;clear s0 s1 s2;have hX7:=F5.r.lt;have hB7:=bw5.size;replace F5:=F5.below b7;replace bw5:=bw5.trans (b7.mono bw5.size);obtain ⟨r0,r1,r2,r3,r4⟩:=F5.r;clear b7 F5;go_wp2_with fail;have oF:=((o7.setCell (p:=⟨X+1+1,0,none⟩) hX7 (.int .i64 st)).setCell (p:=⟨X+1+1,1,none⟩) hX7 (.slice a7 l.length c7)).mono hB7;have bF:Below w.heap.size w ((w7.setCell ⟨X+1+1,0,none⟩ (.int .i64 st)).setCell ⟨X+1+1,1,none⟩ (.slice a7 l.length c7)):=(bw5.setCell (by show _≤X+1+1;omega) _).setCell (by show _≤X+1+1;omega) _;refine bodyPost_ret (v:=.tuple #[.agg #[.int .i64 st,.slice a7 l.length c7],.bool false]) (by simp [results,Tryz.results86,go_sem,r1,r2]) rfl ?_;rw [zaa2 hv HT.out hk]
   exact ⟨_,rfl,oF,bF⟩
 · replace F5:=F5.below b6
   replace bw5:=bw5.trans (b6.mono bw5.size);replace o5:=o5.below b6;replace A5:=A5.below b6;clear b6;obtain ⟨r0,r1,r2,r3,r4⟩:=F5.r;obtain ⟨a0,a1,a2,a3,a4⟩:=A5;go_wp2_with fail;have oF:=((o5.setCell (p:=⟨X+1+1,0,none⟩) hX1 (.int .i64 (st))).setCell (p:=⟨X+1+1,1,none⟩) hX1 (.slice (some ⟨G,0,none⟩) zs.length cv)).mono hBw;have bF:Below w.heap.size w ((w6.setCell ⟨X+1+1,0,none⟩ (.int .i64 (st))).setCell ⟨X+1+1,1,none⟩ (.slice (some ⟨G,0,none⟩) zs.length cv)):=(bw5.setCell (by show _≤X+1+1;omega) _).setCell (by show _≤X+1+1;omega) _;refine bodyPost_ret (v:=.tuple #[.agg #[.int .i64 (st),.slice (some ⟨G,0,none⟩) zs.length cv],.bool true]) (by simp [results,Tryz.results86,go_sem,r1,r2]) rfl ?_;rw [zaa9 hv HT.out hk]
   exact ⟨_,rfl,oF,bF⟩
theorem zaph (a:Option Addr) (c:Nat) (st:Int) (l:List Lg) (i:Nat) (hi:i<l.length) (hl9:l.length≤9) (g:Lg) (w:World) (hl:l.length≤1048576) (hs:Legs w a l) (hv:svOk ⟨st,l⟩=true) (hin:ddIn ⟨2,(i:Int),g⟩=true) (hth:inB (i:Int) 0 ((l.length:Int) - 1)=true) (h6:legOk 6 (nth l i)=true) (ht:ddTry ⟨st,l⟩ ⟨2,(i:Int),g⟩=some ⟨st,l.set i ⟨(nth l i).to,(nth l i).frm,-(nth l i).east,-(nth l i).north,-(nth l i).up⟩⟩) :
 Calls Tryz.prog 86 #[.agg #[.int .i64 st,.slice a l.length c],(⟨2,(i:Int),g⟩:Dd).val] w (SvOut (ddDo ⟨st,l⟩ ⟨2,(i:Int),g⟩) w):=by
 obtain ⟨x1,x2,x3,x4,x5⟩:=g
 show Calls Tryz.prog 86 #[.agg #[.int .i64 st,.slice a l.length c],.agg #[.int .i64 2,.int .i64 (i:Int),.int .i64 x1,.int .i64 x2,.int .i64 x3,.int .i64 x4,.int .i64 x5]] w _
 go_enter Tryz.func86,Tryz.ntmps86
 go_wp2_with fail;obtain ⟨X,hX⟩:=qN (w.heap.size);obtain ⟨W0,hW0⟩:=qM (((w.alloc (.cells #[.int .i64 st,.slice a l.length c] 25)).alloc (.cells #[.int .i64 2,.int .i64 (i:Int),.int .i64 x1,.int .i64 x2,.int .i64 x3,.int .i64 x4,.int .i64 x5] 82)).alloc (.cells #[.int .i64 0,.slice none 0 0] 25))
 have F0:Fr W0 X st (.slice a l.length c) ⟨2,(i:Int),⟨x1,x2,x3,x4,x5⟩⟩:=by rw [hW0,← hX];exact Fr.new w st _ ⟨2,(i:Int),⟨x1,x2,x3,x4,x5⟩⟩ _ _ _
 have b0:Below w.heap.size w W0:=by rw [hW0];exact qBl
 rw [hX,← hW0];clear hW0;refine (zaaa _ _ st l _ hl (hs.below b0)).mono ?_;rintro e w1 ⟨rfl,b1⟩;rw [hv];replace F0:=F0.below b1;replace b0:=b0.trans (b1.mono b0.size);clear b1 W0;obtain ⟨s0,s1,s2,-,-⟩:=F0.s;go_wp2_with fail;clear s0 s1 s2;have hX1:=F0.r.lt;refine (zaah _ _ st l _ hl (hs.below b0)).mono ?_;rintro e w2 ⟨v,rfl,o1,b1⟩;obtain ⟨av,cv,rfl⟩:=o1.sl;replace F0:=F0.below b1;have bw2:=b0.trans (b1.mono b0.size);have hB1:w1.heap.size≤w2.heap.size:=b1.size;have hBw:=b0.size
 have hoY:∀ k,(Value.slice av l.length cv).ownBlock=some k→k<w2.heap.size:=fun k hk=>(o1.lt hk).2
 clear b1;obtain ⟨d0,d1,d2,d3,d4,d5,d6,d7⟩:=F0.d;simp only at d1 d2 d3 d4 d5 d6 d7;go_wp2_with fail;obtain ⟨Y,hY⟩:=qN (w2.heap.size);obtain ⟨W3,hW3⟩:=qM (w2.alloc (.cells #[.int .i64 st,.slice av l.length cv] 25))
 have A0:AtS W3 Y st (.slice av l.length cv):=by rw [hW3,← hY];exact AtS.new w2 st _ _
 have b3:Below w2.heap.size w2 W3:=by rw [hW3];exact qBl
 rw [hY,← hW3];clear hW3 d0 d1 d2 d3 d4 d5 d6 d7;replace F0:=F0.below b3;replace o1:=o1.below b3;replace bw2:=bw2.trans (b3.mono bw2.size);rw [hY] at hB1 hoY;clear b3 b0 hY w2;refine (zaa5 ⟨2,(i:Int),⟨x1,x2,x3,x4,x5⟩⟩ _).mono ?_;rintro e W4 ⟨rfl,hgr⟩;rw [hin];replace F0:=F0.below hgr;replace A0:=A0.below hgr;replace o1:=o1.below hgr;replace bw2:=bw2.trans (hgr.mono bw2.size);clear hgr W3;obtain ⟨s0,s1,s2,-,-⟩:=F0.s;obtain ⟨d0,d1,d2,d3,d4,d5,d6,d7⟩:=F0.d;simp only at d1 d2 d3 d4 d5 d6 d7;go_wp2_with fail;refine (zaac ((i:Int)) 0 ((l.length:Int) - 1) _).mono ?_;rintro e W4' ⟨rfl,hww⟩;obtain rfl:=hww;rw [hth];obtain ⟨G,cap,e,hBG,hn,hm,hrow⟩:=o1.krow qO
 cases e
 have hGY:G<Y:=hoY G rfl;have t0:=hrow.at (k:=i) (r:=0) (show i<cv by omega) (by rw [if_pos hi]) rfl;have t1:=hrow.at (k:=i) (r:=1) (show i<cv by omega) (by rw [if_pos hi]) rfl;have t2:=hrow.at (k:=i) (r:=2) (show i<cv by omega) (by rw [if_pos hi]) rfl;have t3:=hrow.at (k:=i) (r:=3) (show i<cv by omega) (by rw [if_pos hi]) rfl;have t4:=hrow.at (k:=i) (r:=4) (show i<cv by omega) (by rw [if_pos hi]) rfl;have hfz:=hrow.free;have tsz:legK.sz=5:=rfl;rw [tsz] at t0 t1 t2 t3 t4;rw [Nat.add_zero] at t0;clear tsz;obtain ⟨a0,a1,a2,a3,a4⟩:=id A0;obtain ⟨bl,off,hae,hbl,m0,m1,m2,m3,m4⟩:=Legs.at (hs.below bw2) hi
 cases hae
 have hblw:bl<w.heap.size:=by
  obtain ⟨_,_,e9,hb9,-⟩:=Legs.at hs hi
  cases e9
  exact hb9
 have hii:(i:Int)<(l.length:Int):=qO
 have hLB:∀ w,Calls Tryz.prog 126 #[.agg #[.int .i64 (nth l i).frm,.int .i64 (nth l i).to,.int .i64 (nth l i).east,.int .i64 (nth l i).north,.int .i64 (nth l i).up]] w fun e w'=>e=.returned (.agg #[.int .i64 (nth l i).to,.int .i64 (nth l i).frm,.int .i64 (-(nth l i).east),.int .i64 (-(nth l i).north),.int .i64 (-(nth l i).up)])∧Below w.heap.size w w':=fun w=>zad4 (nth l i) w h6
 have HLB:=Lib.hid hLB;clear hLB h6;have hGl:G<W4.heap.size:=hrow.lt;have hXl:X<W4.heap.size:=s0;have hX1l:X+1<W4.heap.size:=d0;have hYl:Y<W4.heap.size:=a0;have ne1:X≠G:=qO;have ne2:X+1≠G:=qO;have ne3:Y≠G:=qO;have ne4:bl≠G:=qO;go_wp2_with fail
 go_region_held3 (fun w'=>w'.cell? ⟨X,1,none⟩=some (.slice (some ⟨bl,off,none⟩) l.length c)∧w'.cell? ⟨X+1,1,none⟩=some (.int .i64 (i:Int))∧w'.cell? ⟨Y,1,none⟩=some (.slice (some ⟨G,0,none⟩) l.length cv)∧w'.cell? ⟨bl,off+i*5,none⟩=some (.int .i64 (nth l i).frm)∧w'.cell? ⟨bl,off+i*5+1,none⟩=some (.int .i64 (nth l i).to)∧w'.cell? ⟨bl,off+i*5+2,none⟩=some (.int .i64 (nth l i).east)∧w'.cell? ⟨bl,off+i*5+3,none⟩=some (.int .i64 (nth l i).north)∧w'.cell? ⟨bl,off+i*5+4,none⟩=some (.int .i64 (nth l i).up)) (first|go_keep|((repeat rw [World.cell?_setCell_other _ _ _ _ (by intro h;injection h;omega)]);exact ⟨s2',d2',a2',m0',m1',m2',m3',m4'⟩))
  (first|(go_at_call 126;refine (HLB.out _).mono ?_;rintro e w5 ⟨rfl,b5⟩;have b45:Below W4.heap.size W4 w5:=Below.trans (by repeat (first|exact Below.refl _ _|refine Below.drew ?_)) (b5.mono qP);clear b5;have s2':=(b45.cell (p:=⟨X,1,none⟩) hXl).trans s2;have d2':=(b45.cell (p:=⟨X+1,1,none⟩) hX1l).trans d2;have a2':=(b45.cell (p:=⟨Y,1,none⟩) hYl).trans a2;have m0':=(b45.cell (p:=⟨bl,off+i*5,none⟩) hbl).trans m0;have m1':=(b45.cell (p:=⟨bl,off+i*5+1,none⟩) hbl).trans m1;have m2':=(b45.cell (p:=⟨bl,off+i*5+2,none⟩) hbl).trans m2;have m3':=(b45.cell (p:=⟨bl,off+i*5+3,none⟩) hbl).trans m3;have m4':=(b45.cell (p:=⟨bl,off+i*5+4,none⟩) hbl).trans m4;have t0':=(b45.cell (p:=⟨G,i*5,none⟩) hGl).trans t0;have t1':=(b45.cell (p:=⟨G,i*5+1,none⟩) hGl).trans t1;have t2':=(b45.cell (p:=⟨G,i*5+2,none⟩) hGl).trans t2;have t3':=(b45.cell (p:=⟨G,i*5+3,none⟩) hGl).trans t3;have t4':=(b45.cell (p:=⟨G,i*5+4,none⟩) hGl).trans t4;have hfz':=fun j=>(b45.frozen (p:=⟨G,j,none⟩) hGl).trans (hfz j)))
 all_goals
  clear s2' d2' a2' m0' m1' m2' m3' m4' t0' t1' t2' t3' t4' hfz' s0 s1 s2 d0 d1 d2 d3 d4 d5 d6 d7 a0 a1 a2 a3 a4 m0 m1 m2 m3 m4 t0 t1 t2 t3 t4 hfz HLB;replace F0:=F0.below b45;replace A0:=A0.below b45;replace o1:=o1.below b45;replace bw2:=bw2.trans (b45.mono bw2.size);clear b45 hrow hbl hGl hXl hX1l hYl W4;obtain ⟨G',cap,e,-,-,-,hrow⟩:=o1.krow qO
  cases e
  have hGY:G<Y:=hoY G rfl;have hput:=hrow.put i [⟨(nth l i).to,(nth l i).frm,-(nth l i).east,-(nth l i).north,-(nth l i).up⟩]
  have hF:∀ k,k<(l.set i ⟨(nth l i).to,(nth l i).frm,-(nth l i).east,-(nth l i).north,-(nth l i).up⟩).length→(fun k=>if i≤k∧k<i+[(⟨(nth l i).to,(nth l i).frm,-(nth l i).east,-(nth l i).north,-(nth l i).up⟩:Lg)].length then some (nth [(⟨(nth l i).to,(nth l i).frm,-(nth l i).east,-(nth l i).north,-(nth l i).up⟩:Lg)] (k - i)) else (fun k=>if k<l.length then some (nth l k) else none) k) k=some (nth (l.set i ⟨(nth l i).to,(nth l i).frm,-(nth l i).east,-(nth l i).north,-(nth l i).up⟩) k):=by
   intro k hk;simp only [List.length_set] at hk;simp only [List.length_cons,List.length_nil];rw [zaav hk]
   by_cases e:i=k
   · subst e;rw [if_pos qO,if_pos rfl];simp [nth]
   · rw [if_neg qO,if_pos hk,if_neg e]
  obtain ⟨zs,hzs⟩:=qM (l.set i ⟨(nth l i).to,(nth l i).frm,-(nth l i).east,-(nth l i).north,-(nth l i).up⟩)
  have hlen:zs.length=l.length:=by rw [hzs];simp
  have hlz:zs.length≤1048576:=by rw [hlen];exact hl
  rw [← hzs] at ht hF;have oP:=hput.own hBG zs qO hm hF;rw [hlen] at oP;have HZ:=Lib.hid hlen;have HO:=Lib.hid oP;have t0:=hrow.at (k:=i) (r:=0) (show i<cv by omega) (by rw [if_pos hi]) rfl;have t1:=hrow.at (k:=i) (r:=1) (show i<cv by omega) (by rw [if_pos hi]) rfl;have t2:=hrow.at (k:=i) (r:=2) (show i<cv by omega) (by rw [if_pos hi]) rfl;have t3:=hrow.at (k:=i) (r:=3) (show i<cv by omega) (by rw [if_pos hi]) rfl;have t4:=hrow.at (k:=i) (r:=4) (show i<cv by omega) (by rw [if_pos hi]) rfl;have hfz:=hrow.free;have tsz:legK.sz=5:=rfl;rw [tsz] at t0 t1 t2 t3 t4;rw [Nat.add_zero] at t0;clear tsz hF oP hlen hzs;obtain ⟨s0,s1,s2,-,-⟩:=F0.s;obtain ⟨d0,d1,d2,d3,d4,d5,d6,d7⟩:=F0.d;simp only at d1 d2 d3 d4 d5 d6 d7;obtain ⟨a0,a1,a2,a3,a4⟩:=id A0;go_wp2_with fail;obtain ⟨W5,hW5⟩:=qM ((((((w5.setCell ⟨G,i*5,none⟩ (.int .i64 (nth l i).to)).setCell ⟨G,i*5+1,none⟩ (.int .i64 (nth l i).frm)).setCell ⟨G,i*5+2,none⟩ (.int .i64 (-(nth l i).east))).setCell ⟨G,i*5+3,none⟩ (.int .i64 (-(nth l i).north))).setCell ⟨G,i*5+4,none⟩ (.int .i64 (-(nth l i).up))));rw [← hW5];have eW5:W5=w5.setCells G (i*legK.sz) (legK.flat [⟨(nth l i).to,(nth l i).frm,-(nth l i).east,-(nth l i).north,-(nth l i).up⟩]):=hW5
  have b5:Below w1.heap.size w5 W5:=by rw [eW5];exact zabp G hBG _ _ _ (Below.refl _ _)
  have F5:=F0.belowB b5 hX1;have A5:AtS W5 Y st (.slice (some ⟨G,0,none⟩) l.length cv):=A0.block (by rw [eW5];exact (zabx _ _ _).2.2.2.2 Y qO)
  have o5:OwnL W5 w1.heap.size (.slice (some ⟨G,0,none⟩) zs.length cv) zs:=by rw [eW5,HZ.out];exact HO.out
  have bw5:=bw2.trans (b5.mono hBw);rw [← HZ.out] at A5;have HE:(l.length=zs.length):=HZ.out.symm;rw [HE];clear HE;clear hW5 eW5 b5 F0 A0 o1 bw2 hput hrow HO t0 t1 t2 t3 t4 hfz a0 a1 a2 a3 a4 s0 s1 s2 d0 d1 d2 d3 d4 d5 d6 d7;have hlz:zs.length≤1048576:=hlz;obtain ⟨s0,s1,s2,-,-⟩:=F5.s;have HT:=Lib.hid ht;clear ht;refine (zaaa _ _ (st) zs _ hlz (by obtain ⟨_,_,e,_,_,hr⟩:=o5.rd;cases e;exact hr)).mono ?_;rintro e w6 ⟨rfl,b6⟩;clear s0 s1 s2
  cases hk:svOk ⟨st,zs⟩
  · replace F5:=F5.below b6
    replace bw5:=bw5.trans (b6.mono bw5.size);clear b6 o5 A5;obtain ⟨s0,s1,s2,-,-⟩:=F5.s;go_wp2_with fail;refine (zaah _ _ st l _ hl (hs.below bw5)).mono ?_;rintro e w7 ⟨v7,rfl,o7,b7⟩;obtain ⟨a7,c7,rfl⟩:=o7.sl;clear s0 s1 s2;have hX7:=F5.r.lt;have hB7:=bw5.size;replace F5:=F5.below b7;replace bw5:=bw5.trans (b7.mono bw5.size);obtain ⟨r0,r1,r2,r3,r4⟩:=F5.r;clear b7 F5;go_wp2_with fail;have oF:=((o7.setCell (p:=⟨X+1+1,0,none⟩) hX7 (.int .i64 st)).setCell (p:=⟨X+1+1,1,none⟩) hX7 (.slice a7 l.length c7)).mono hB7;have bF:Below w.heap.size w ((w7.setCell ⟨X+1+1,0,none⟩ (.int .i64 st)).setCell ⟨X+1+1,1,none⟩ (.slice a7 l.length c7)):=(bw5.setCell (by show _≤X+1+1;omega) _).setCell (by show _≤X+1+1;omega) _;refine bodyPost_ret (v:=.tuple #[.agg #[.int .i64 st,.slice a7 l.length c7],.bool false]) (by simp [results,Tryz.results86,go_sem,r1,r2]) rfl ?_;rw [zaa2 hv HT.out hk]
    exact ⟨_,rfl,oF,bF⟩
  · replace F5:=F5.below b6
    replace bw5:=bw5.trans (b6.mono bw5.size);replace o5:=o5.below b6;replace A5:=A5.below b6;clear b6;obtain ⟨r0,r1,r2,r3,r4⟩:=F5.r;obtain ⟨a0,a1,a2,a3,a4⟩:=A5;go_wp2_with fail;have oF:=((o5.setCell (p:=⟨X+1+1,0,none⟩) hX1 (.int .i64 (st))).setCell (p:=⟨X+1+1,1,none⟩) hX1 (.slice (some ⟨G,0,none⟩) zs.length cv)).mono hBw;have bF:Below w.heap.size w ((w6.setCell ⟨X+1+1,0,none⟩ (.int .i64 (st))).setCell ⟨X+1+1,1,none⟩ (.slice (some ⟨G,0,none⟩) zs.length cv)):=(bw5.setCell (by show _≤X+1+1;omega) _).setCell (by show _≤X+1+1;omega) _;refine bodyPost_ret (v:=.tuple #[.agg #[.int .i64 (st),.slice (some ⟨G,0,none⟩) zs.length cv],.bool true]) (by simp [results,Tryz.results86,go_sem,r1,r2]) rfl ?_;rw [zaa9 hv HT.out hk]
    exact ⟨_,rfl,oF,bF⟩
end Go.Proofs.YthfoloefkfadlaaGreatDoor
