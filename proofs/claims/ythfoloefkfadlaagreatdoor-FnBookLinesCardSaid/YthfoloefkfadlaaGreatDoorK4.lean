/- Walks: impl.DeedDo: what stands in its frame; the ways on which nothing is changed. -/
import Derived.Test.YthfoloefkfadlaaGreatDoorK2
set_option linter.unusedSimpArgs false
set_option linter.unusedVariables false
set_option maxHeartbeats 1000000
namespace Go.Proofs.YthfoloefkfadlaaGreatDoor
open Go Go.RowKit Go.Sort
def SvOut (p:Sv × Bool) (w:World) (e:Ending) (w':World):Prop:=∃ v,e=.returned (.tuple #[.agg #[.int .i64 p.1.st,v],.bool p.2])∧OwnL w' w.heap.size v p.1.legs∧Below w.heap.size w w'
structure AtS (w:World) (X:Nat) (st:Int) (v:Value):Prop where
 lt:X<w.heap.size
 c0:w.cell? ⟨X,0,none⟩=some (.int .i64 st)
 c1:w.cell? ⟨X,1,none⟩=some v
 f0:w.frozen? ⟨X,0,none⟩=false
 f1:w.frozen? ⟨X,1,none⟩=false
theorem AtS.below {w w':World} {X:Nat} {st:Int} {v:Value} (h:AtS w X st v) (hb:Below w.heap.size w w'):AtS w' X st v :=
 ⟨Nat.lt_of_lt_of_le h.lt hb.size,(hb.cell (p:=⟨X,0,none⟩) h.lt).trans h.c0,(hb.cell (p:=⟨X,1,none⟩) h.lt).trans h.c1,(hb.frozen (p:=⟨X,0,none⟩) h.lt).trans h.f0,(hb.frozen (p:=⟨X,1,none⟩) h.lt).trans h.f1⟩
theorem AtS.belowB {w w':World} {X B:Nat} {st:Int} {v:Value} (h:AtS w X st v) (hb:Below B w w') (hX:X<B):AtS w' X st v :=
 ⟨Nat.lt_of_lt_of_le h.lt hb.size,(hb.cell (p:=⟨X,0,none⟩) hX).trans h.c0,(hb.cell (p:=⟨X,1,none⟩) hX).trans h.c1,(hb.frozen (p:=⟨X,0,none⟩) hX).trans h.f0,(hb.frozen (p:=⟨X,1,none⟩) hX).trans h.f1⟩
structure AtD (w:World) (X:Nat) (d:Dd):Prop where
 lt:X<w.heap.size
 c0:w.cell? ⟨X,0,none⟩=some (.int .i64 d.kind)
 c1:w.cell? ⟨X,1,none⟩=some (.int .i64 d.index)
 c2:w.cell? ⟨X,2,none⟩=some (.int .i64 d.leg.frm)
 c3:w.cell? ⟨X,3,none⟩=some (.int .i64 d.leg.to)
 c4:w.cell? ⟨X,4,none⟩=some (.int .i64 d.leg.east)
 c5:w.cell? ⟨X,5,none⟩=some (.int .i64 d.leg.north)
 c6:w.cell? ⟨X,6,none⟩=some (.int .i64 d.leg.up)
theorem AtD.belowB {w w':World} {X B:Nat} {d:Dd} (h:AtD w X d) (hb:Below B w w') (hX:X<B):AtD w' X d :=
 ⟨Nat.lt_of_lt_of_le h.lt hb.size,(hb.cell (p:=⟨X,0,none⟩) hX).trans h.c0,(hb.cell (p:=⟨X,1,none⟩) hX).trans h.c1,(hb.cell (p:=⟨X,2,none⟩) hX).trans h.c2,(hb.cell (p:=⟨X,3,none⟩) hX).trans h.c3,(hb.cell (p:=⟨X,4,none⟩) hX).trans h.c4,(hb.cell (p:=⟨X,5,none⟩) hX).trans h.c5,(hb.cell (p:=⟨X,6,none⟩) hX).trans h.c6⟩
theorem AtD.below {w w':World} {X:Nat} {d:Dd} (h:AtD w X d) (hb:Below w.heap.size w w'):AtD w' X d:=h.belowB hb h.lt
theorem AtS.block {w w':World} {X:Nat} {st:Int} {v:Value} (h:AtS w X st v) (hb:w'.heap[X]?=w.heap[X]?):AtS w' X st v :=
 have hl:X<w'.heap.size:=by
  have h1:(w.heap[X]?).isSome=true:=by rw [Array.getElem?_eq_getElem h.lt];rfl
  rw [← hb] at h1
  apply Nat.lt_of_not_le
  intro hle;rw [Array.getElem?_eq_none hle] at h1
  cases h1
 ⟨hl,(World.cell?_of_block (w:=w) (a:=⟨X,0,none⟩) hb).trans h.c0,(World.cell?_of_block (w:=w) (a:=⟨X,1,none⟩) hb).trans h.c1,(World.frozen?_of_block (w:=w) (a:=⟨X,0,none⟩) hb).trans h.f0,(World.frozen?_of_block (w:=w) (a:=⟨X,1,none⟩) hb).trans h.f1⟩
theorem AtS.set0 {w:World} {X:Nat} {st:Int} {v:Value} (h:AtS w X st v) (st':Int):AtS (w.setCell ⟨X,0,none⟩ (.int .i64 st')) X st' v :=
 ⟨by simpa [World.setCell] using h.lt,World.cell?_setCell_same _ _ _ h.c0,(World.cell?_setCell_other _ _ _ _ qP).trans h.c1,by rw [World.frozen?_setCell];exact h.f0,by rw [World.frozen?_setCell];exact h.f1⟩
theorem AtS.set1 {w:World} {X:Nat} {st:Int} {v:Value} (h:AtS w X st v) (v':Value):AtS (w.setCell ⟨X,1,none⟩ v') X st v' :=
 ⟨by simpa [World.setCell] using h.lt,(World.cell?_setCell_other _ _ _ _ qP).trans h.c0,World.cell?_setCell_same _ _ _ h.c1,by rw [World.frozen?_setCell];exact h.f0,by rw [World.frozen?_setCell];exact h.f1⟩
theorem AtS.kept {w w':World} {X:Nat} {st:Int} {v:Value} {row:Option Nat} (h:AtS w X st v) (hg:w.grownBy w' row) (hne:some X≠row):AtS w' X st v:=h.block (hg.block X h.lt hne)
theorem AtS.alloc {w:World} {X:Nat} {st:Int} {v:Value} (h:AtS w X st v) (o:Obj):AtS (w.alloc o) X st v:=h.below ((Below.refl _ _).alloc (Nat.le_refl _) o)
theorem AtD.alloc {w:World} {X:Nat} {d:Dd} (h:AtD w X d) (o:Obj):AtD (w.alloc o) X d:=h.below ((Below.refl _ _).alloc (Nat.le_refl _) o)
theorem AtS.new (w:World) (st:Int) (v:Value) (T:TypeId):AtS (w.alloc (.cells #[.int .i64 st,v] T)) w.heap.size st v:=⟨by simp,by simp,by simp,by simp,by simp⟩
theorem AtD.new (w:World) (d:Dd) (T:TypeId):AtD (w.alloc (.cells #[.int .i64 d.kind,.int .i64 d.index,.int .i64 d.leg.frm,.int .i64 d.leg.to,.int .i64 d.leg.east,.int .i64 d.leg.north,.int .i64 d.leg.up] T)) w.heap.size d:=⟨by simp,by simp,by simp,by simp,by simp,by simp,by simp,by simp⟩
structure Fr (w:World) (X:Nat) (st:Int) (v:Value) (d:Dd):Prop where
 s:AtS w X st v
 d:AtD w (X+1) d
 r:AtS w (X+1+1) 0 (.slice none 0 0)
theorem Fr.below {w w':World} {X:Nat} {st:Int} {v:Value} {d:Dd} (h:Fr w X st v d) (hb:Below w.heap.size w w'):Fr w' X st v d:=⟨h.s.below hb,h.d.below hb,h.r.below hb⟩
theorem Fr.belowB {w w':World} {X B:Nat} {st:Int} {v:Value} {d:Dd} (h:Fr w X st v d) (hb:Below B w w') (hX:X+1+1<B):Fr w' X st v d:=⟨h.s.belowB hb qO,h.d.belowB hb qO,h.r.belowB hb hX⟩
theorem Fr.new (w:World) (st:Int) (v:Value) (d:Dd) (T U V:TypeId):Fr (((w.alloc (.cells #[.int .i64 st,v] T)).alloc (.cells #[.int .i64 d.kind,.int .i64 d.index,.int .i64 d.leg.frm,.int .i64 d.leg.to,.int .i64 d.leg.east,.int .i64 d.leg.north,.int .i64 d.leg.up] U)).alloc (.cells #[.int .i64 0,.slice none 0 0] V)) w.heap.size st v d:=by
 refine ⟨((AtS.new w st v T).alloc _).alloc _,?_,?_⟩
 · have:=(AtD.new (w.alloc (.cells #[.int .i64 st,v] T)) d U).alloc (.cells #[.int .i64 0,.slice none 0 0] V)
   rwa [show (w.alloc (.cells #[.int .i64 st,v] T)).heap.size=w.heap.size+1 by simp] at this
 · have:=AtS.new ((w.alloc (.cells #[.int .i64 st,v] T)).alloc (.cells #[.int .i64 d.kind,.int .i64 d.index,.int .i64 d.leg.frm,.int .i64 d.leg.to,.int .i64 d.leg.east,.int .i64 d.leg.north,.int .i64 d.leg.up] U)) 0 (.slice none 0 0) V
   rwa [show ((w.alloc (.cells #[.int .i64 st,v] T)).alloc (.cells #[.int .i64 d.kind,.int .i64 d.index,.int .i64 d.leg.frm,.int .i64 d.leg.to,.int .i64 d.leg.east,.int .i64 d.leg.north,.int .i64 d.leg.up] U)).heap.size=w.heap.size+1+1 by simp] at this
theorem zatc (a:Option Addr) (c:Nat) (st:Int) (l:List Lg) (d:Dd) (w:World) (hl:l.length≤1048576) (hs:Legs w a l) (hv:svOk ⟨st,l⟩=false) :
 Calls Tryz.prog 50 #[.agg #[.int .i64 st,.slice a l.length c],d.val] w (SvOut (ddDo ⟨st,l⟩ d) w):=by
 rw [zagr hv];obtain ⟨kd,ix,⟨x1,x2,x3,x4,x5⟩⟩:=d
 show Calls Tryz.prog 50 #[.agg #[.int .i64 st,.slice a l.length c],.agg #[.int .i64 kd,.int .i64 ix,.int .i64 x1,.int .i64 x2,.int .i64 x3,.int .i64 x4,.int .i64 x5]] w _
 go_enter Tryz.func50,Tryz.ntmps50
 go_wp2_with (go_at_call 74;refine (zaab _ _ st l _ hl (hs.below qBl)).mono ?_;rintro e w1 ⟨rfl,b1⟩;rw [hv];obtain ⟨hc,hf⟩:=bcell b1)
 refine bodyPost_ret (v:=.tuple #[.agg #[.int .i64 0,.slice none 0 0],.bool false]) (by simp [results,Tryz.results50,go_sem,hc]) rfl ⟨_,rfl,KOwn.nil,(by repeat (first|with_reducible assumption|with_reducible exact Below.refl _ _|refine Below.setCell ?_ qSo _|refine Below.alloc ?_ qSo _|with_reducible exact Below.trans (Below.refl _ _) b1|refine Below.trans ?_ (Below.mono b1 qSo)|refine below_drewN ?_ _|refine Below.drew ?_))⟩
set_option maxHeartbeats 2000000
theorem zapy (a:Option Addr) (c:Nat) (st:Int) (l:List Lg) (kd:Int) (ix:Int) (g:Lg) (w:World) (hl:l.length≤1048576) (hs:Legs w a l) (hv:svOk ⟨st,l⟩=true) (hfit:ddFits ⟨kd,ix,g⟩=false) (ht:ddTry ⟨st,l⟩ ⟨kd,ix,g⟩=none) :
 Calls Tryz.prog 50 #[.agg #[.int .i64 st,.slice a l.length c],(⟨kd,ix,g⟩:Dd).val] w (SvOut (ddDo ⟨st,l⟩ ⟨kd,ix,g⟩) w):=by
 rw [zab7 hv ht];obtain ⟨x1,x2,x3,x4,x5⟩:=g
 show Calls Tryz.prog 50 #[.agg #[.int .i64 st,.slice a l.length c],.agg #[.int .i64 kd,.int .i64 ix,.int .i64 x1,.int .i64 x2,.int .i64 x3,.int .i64 x4,.int .i64 x5]] w _
 go_enter Tryz.func50,Tryz.ntmps50
 go_wp2_with fail;obtain ⟨X,hX⟩:=qN (w.heap.size);obtain ⟨W0,hW0⟩:=qM (((w.alloc (.cells #[.int .i64 st,.slice a l.length c] 25)).alloc (.cells #[.int .i64 kd,.int .i64 ix,.int .i64 x1,.int .i64 x2,.int .i64 x3,.int .i64 x4,.int .i64 x5] 82)).alloc (.cells #[.int .i64 0,.slice none 0 0] 25))
 have F0:Fr W0 X st (.slice a l.length c) ⟨kd,ix,⟨x1,x2,x3,x4,x5⟩⟩:=by rw [hW0,← hX];exact Fr.new w st _ ⟨kd,ix,⟨x1,x2,x3,x4,x5⟩⟩ _ _ _
 have b0:Below w.heap.size w W0:=by rw [hW0];exact qBl
 rw [hX,← hW0];clear hW0;refine (zaab _ _ st l _ hl (hs.below b0)).mono ?_;rintro e w1 ⟨rfl,b1⟩;rw [hv];replace F0:=F0.below b1;replace b0:=b0.trans (b1.mono b0.size);clear b1 W0;obtain ⟨s0,s1,s2,-,-⟩:=F0.s;go_wp2_with fail;clear s0 s1 s2;have hX1:=F0.r.lt;refine (zaai _ _ st l _ hl (hs.below b0)).mono ?_;rintro e w2 ⟨v,rfl,o1,b1⟩;obtain ⟨av,cv,rfl⟩:=o1.sl;replace F0:=F0.below b1;have bw2:=b0.trans (b1.mono b0.size);have hB1:w1.heap.size≤w2.heap.size:=b1.size;have hBw:=b0.size
 have hoY:∀ k,(Value.slice av l.length cv).ownBlock=some k→k<w2.heap.size:=fun k hk=>(o1.lt hk).2
 clear b1;go_wp2_with fail;obtain ⟨Y,hY⟩:=qN (w2.heap.size);obtain ⟨W3,hW3⟩:=qM (w2.alloc (.cells #[.int .i64 st,.slice av l.length cv] 25))
 have A0:AtS W3 Y st (.slice av l.length cv):=by rw [hW3,← hY];exact AtS.new w2 st _ _
 have b3:Below w2.heap.size w2 W3:=by rw [hW3];exact qBl
 rw [hY,← hW3];clear hW3;replace F0:=F0.below b3;replace o1:=o1.below b3;replace bw2:=bw2.trans (b3.mono bw2.size);rw [hY] at hB1 hoY;clear b3 b0 hY w2;obtain ⟨s0,s1,s2,-,-⟩:=F0.s;obtain ⟨d0,d1,d2,d3,d4,d5,d6,d7⟩:=F0.d;simp only at d1 d2 d3 d4 d5 d6 d7;have k1:=cell_regrown s1;have k2:=cell_regrown s2;have e1:=cell_regrown d1;have e2:=cell_regrown d2;have e3:=cell_regrown d3;have e4:=cell_regrown d4;have e5:=cell_regrown d5;have e6:=cell_regrown d6;have e7:=cell_regrown d7;have i1:=zaad (w:=W3) (zaaw ⟨kd,ix,⟨x1,x2,x3,x4,x5⟩⟩);simp only [Dd.val,hfit] at i1;refine wp_region_quiet_below (by kernel_rfl) (by kernel_rfl) ?_
 repeat (first|go_big_quiet_step (first|with_reducible exact i1 _ _)|quiet_step (first|with_reducible exact i1 _ _))
 refine wpQuiet_nil ?_;intro _ hw';obtain ⟨⟨dq,osq⟩,hw''⟩:=hw';have hgr:Below W3.heap.size W3 (grow (redrawn W3 dq) osq):=below_regrown W3 dq osq;subst hw'';generalize grow (redrawn W3 dq) osq=W4 at hgr ⊢;clear k1 k2 e1 e2 e3 e4 e5 e6 e7 i1 s0 s1 s2 d0 d1 d2 d3 d4 d5 d6 d7;replace F0:=F0.below hgr;replace A0:=A0.below hgr;replace o1:=o1.below hgr;replace bw2:=bw2.trans (hgr.mono bw2.size);clear hgr W3;obtain ⟨r0,r1,r2,r3,r4⟩:=F0.r;obtain ⟨a0,a1,a2,a3,a4⟩:=A0;go_wp2_with fail;have oF:=((o1.setCell (p:=⟨X+1+1,0,none⟩) hX1 (.int .i64 st)).setCell (p:=⟨X+1+1,1,none⟩) hX1 (.slice av l.length cv)).mono hBw;have bF:Below w.heap.size w ((W4.setCell ⟨X+1+1,0,none⟩ (.int .i64 st)).setCell ⟨X+1+1,1,none⟩ (.slice av l.length cv)):=(bw2.setCell (by show _≤X+1+1;omega) _).setCell (by show _≤X+1+1;omega) _
 exact bodyPost_ret (v:=.tuple #[.agg #[.int .i64 st,.slice av l.length cv],.bool false]) (by simp [results,Tryz.results50,go_sem,r1,r2]) rfl ⟨_,rfl,oF,bF⟩
theorem zari (a:Option Addr) (c:Nat) (st:Int) (l:List Lg) (ix:Int) (g:Lg) (w:World) (hl:l.length≤1048576) (hs:Legs w a l) (hv:svOk ⟨st,l⟩=true) (hfit:ddFits ⟨0,ix,g⟩=true) (hidx:isIdx ix ((l.length:Int)+1)=false) (ht:ddTry ⟨st,l⟩ ⟨0,ix,g⟩=none) :
 Calls Tryz.prog 50 #[.agg #[.int .i64 st,.slice a l.length c],(⟨0,ix,g⟩:Dd).val] w (SvOut (ddDo ⟨st,l⟩ ⟨0,ix,g⟩) w):=by
 rw [zab7 hv ht];obtain ⟨x1,x2,x3,x4,x5⟩:=g
 show Calls Tryz.prog 50 #[.agg #[.int .i64 st,.slice a l.length c],.agg #[.int .i64 0,.int .i64 ix,.int .i64 x1,.int .i64 x2,.int .i64 x3,.int .i64 x4,.int .i64 x5]] w _
 go_enter Tryz.func50,Tryz.ntmps50
 go_wp2_with fail;obtain ⟨X,hX⟩:=qN (w.heap.size);obtain ⟨W0,hW0⟩:=qM (((w.alloc (.cells #[.int .i64 st,.slice a l.length c] 25)).alloc (.cells #[.int .i64 0,.int .i64 ix,.int .i64 x1,.int .i64 x2,.int .i64 x3,.int .i64 x4,.int .i64 x5] 82)).alloc (.cells #[.int .i64 0,.slice none 0 0] 25))
 have F0:Fr W0 X st (.slice a l.length c) ⟨0,ix,⟨x1,x2,x3,x4,x5⟩⟩:=by rw [hW0,← hX];exact Fr.new w st _ ⟨0,ix,⟨x1,x2,x3,x4,x5⟩⟩ _ _ _
 have b0:Below w.heap.size w W0:=by rw [hW0];exact qBl
 rw [hX,← hW0];clear hW0;refine (zaab _ _ st l _ hl (hs.below b0)).mono ?_;rintro e w1 ⟨rfl,b1⟩;rw [hv];replace F0:=F0.below b1;replace b0:=b0.trans (b1.mono b0.size);clear b1 W0;obtain ⟨s0,s1,s2,-,-⟩:=F0.s;go_wp2_with fail;clear s0 s1 s2;have hX1:=F0.r.lt;refine (zaai _ _ st l _ hl (hs.below b0)).mono ?_;rintro e w2 ⟨v,rfl,o1,b1⟩;obtain ⟨av,cv,rfl⟩:=o1.sl;replace F0:=F0.below b1;have bw2:=b0.trans (b1.mono b0.size);have hB1:w1.heap.size≤w2.heap.size:=b1.size;have hBw:=b0.size
 have hoY:∀ k,(Value.slice av l.length cv).ownBlock=some k→k<w2.heap.size:=fun k hk=>(o1.lt hk).2
 clear b1;go_wp2_with fail;obtain ⟨Y,hY⟩:=qN (w2.heap.size);obtain ⟨W3,hW3⟩:=qM (w2.alloc (.cells #[.int .i64 st,.slice av l.length cv] 25))
 have A0:AtS W3 Y st (.slice av l.length cv):=by rw [hW3,← hY];exact AtS.new w2 st _ _
 have b3:Below w2.heap.size w2 W3:=by rw [hW3];exact qBl
 rw [hY,← hW3];clear hW3;replace F0:=F0.below b3;replace o1:=o1.below b3;replace bw2:=bw2.trans (b3.mono bw2.size);rw [hY] at hB1 hoY;clear b3 b0 hY w2;obtain ⟨s0,s1,s2,-,-⟩:=F0.s;obtain ⟨d0,d1,d2,d3,d4,d5,d6,d7⟩:=F0.d;simp only at d1 d2 d3 d4 d5 d6 d7;have k1:=cell_regrown s1;have k2:=cell_regrown s2;have e1:=cell_regrown d1;have e2:=cell_regrown d2;have e3:=cell_regrown d3;have e4:=cell_regrown d4;have e5:=cell_regrown d5;have e6:=cell_regrown d6;have e7:=cell_regrown d7;have i1:=zaad (w:=W3) (zaaw ⟨0,ix,⟨x1,x2,x3,x4,x5⟩⟩);simp only [Dd.val,hfit] at i1
 have i2:=zaad (w:=W3) (fun w=>zabh a l.length c st 0 w hl)
 have i3:=zaad (w:=W3) (fun w=>(zaal ix ((l.length:Int)+1) w).mono fun _ _ ⟨h1,h2⟩=>⟨h1,h2▸Below.refl _ _⟩)
 rw [hidx] at i3;simp only [if_true] at i2;refine wp_region_quiet_below (by kernel_rfl) (by kernel_rfl) ?_
 repeat (first|go_big_quiet_step (first|with_reducible exact i1 _ _|with_reducible exact i2 _ _|with_reducible exact i3 _ _)|quiet_step (first|with_reducible exact i1 _ _|with_reducible exact i2 _ _|with_reducible exact i3 _ _))
 refine wpQuiet_nil ?_;intro _ hw';obtain ⟨⟨dq,osq⟩,hw''⟩:=hw';have hgr:Below W3.heap.size W3 (grow (redrawn W3 dq) osq):=below_regrown W3 dq osq;subst hw'';generalize grow (redrawn W3 dq) osq=W4 at hgr ⊢;clear k1 k2 e1 e2 e3 e4 e5 e6 e7 i1 i2 i3 s0 s1 s2 d0 d1 d2 d3 d4 d5 d6 d7;replace F0:=F0.below hgr;replace A0:=A0.below hgr;replace o1:=o1.below hgr;replace bw2:=bw2.trans (hgr.mono bw2.size);clear hgr W3;obtain ⟨r0,r1,r2,r3,r4⟩:=F0.r;obtain ⟨a0,a1,a2,a3,a4⟩:=A0;go_wp2_with fail;have oF:=((o1.setCell (p:=⟨X+1+1,0,none⟩) hX1 (.int .i64 st)).setCell (p:=⟨X+1+1,1,none⟩) hX1 (.slice av l.length cv)).mono hBw;have bF:Below w.heap.size w ((W4.setCell ⟨X+1+1,0,none⟩ (.int .i64 st)).setCell ⟨X+1+1,1,none⟩ (.slice av l.length cv)):=(bw2.setCell (by show _≤X+1+1;omega) _).setCell (by show _≤X+1+1;omega) _
 exact bodyPost_ret (v:=.tuple #[.agg #[.int .i64 st,.slice av l.length cv],.bool false]) (by simp [results,Tryz.results50,go_sem,r1,r2]) rfl ⟨_,rfl,oF,bF⟩
theorem zarj (a:Option Addr) (c:Nat) (st:Int) (l:List Lg) (ix:Int) (g:Lg) (w:World) (hl:l.length≤1048576) (hs:Legs w a l) (hv:svOk ⟨st,l⟩=true) (hfit:ddFits ⟨1,ix,g⟩=true) (hidx:isIdx ix ((l.length:Int))=false) (ht:ddTry ⟨st,l⟩ ⟨1,ix,g⟩=none) :
 Calls Tryz.prog 50 #[.agg #[.int .i64 st,.slice a l.length c],(⟨1,ix,g⟩:Dd).val] w (SvOut (ddDo ⟨st,l⟩ ⟨1,ix,g⟩) w):=by
 rw [zab7 hv ht];obtain ⟨x1,x2,x3,x4,x5⟩:=g
 show Calls Tryz.prog 50 #[.agg #[.int .i64 st,.slice a l.length c],.agg #[.int .i64 1,.int .i64 ix,.int .i64 x1,.int .i64 x2,.int .i64 x3,.int .i64 x4,.int .i64 x5]] w _
 go_enter Tryz.func50,Tryz.ntmps50
 go_wp2_with fail;obtain ⟨X,hX⟩:=qN (w.heap.size);obtain ⟨W0,hW0⟩:=qM (((w.alloc (.cells #[.int .i64 st,.slice a l.length c] 25)).alloc (.cells #[.int .i64 1,.int .i64 ix,.int .i64 x1,.int .i64 x2,.int .i64 x3,.int .i64 x4,.int .i64 x5] 82)).alloc (.cells #[.int .i64 0,.slice none 0 0] 25))
 have F0:Fr W0 X st (.slice a l.length c) ⟨1,ix,⟨x1,x2,x3,x4,x5⟩⟩:=by rw [hW0,← hX];exact Fr.new w st _ ⟨1,ix,⟨x1,x2,x3,x4,x5⟩⟩ _ _ _
 have b0:Below w.heap.size w W0:=by rw [hW0];exact qBl
 rw [hX,← hW0];clear hW0;refine (zaab _ _ st l _ hl (hs.below b0)).mono ?_;rintro e w1 ⟨rfl,b1⟩;rw [hv];replace F0:=F0.below b1;replace b0:=b0.trans (b1.mono b0.size);clear b1 W0;obtain ⟨s0,s1,s2,-,-⟩:=F0.s;go_wp2_with fail;clear s0 s1 s2;have hX1:=F0.r.lt;refine (zaai _ _ st l _ hl (hs.below b0)).mono ?_;rintro e w2 ⟨v,rfl,o1,b1⟩;obtain ⟨av,cv,rfl⟩:=o1.sl;replace F0:=F0.below b1;have bw2:=b0.trans (b1.mono b0.size);have hB1:w1.heap.size≤w2.heap.size:=b1.size;have hBw:=b0.size
 have hoY:∀ k,(Value.slice av l.length cv).ownBlock=some k→k<w2.heap.size:=fun k hk=>(o1.lt hk).2
 clear b1;go_wp2_with fail;obtain ⟨Y,hY⟩:=qN (w2.heap.size);obtain ⟨W3,hW3⟩:=qM (w2.alloc (.cells #[.int .i64 st,.slice av l.length cv] 25))
 have A0:AtS W3 Y st (.slice av l.length cv):=by rw [hW3,← hY];exact AtS.new w2 st _ _
 have b3:Below w2.heap.size w2 W3:=by rw [hW3];exact qBl
 rw [hY,← hW3];clear hW3;replace F0:=F0.below b3;replace o1:=o1.below b3;replace bw2:=bw2.trans (b3.mono bw2.size);rw [hY] at hB1 hoY;clear b3 b0 hY w2;obtain ⟨s0,s1,s2,-,-⟩:=F0.s;obtain ⟨d0,d1,d2,d3,d4,d5,d6,d7⟩:=F0.d;simp only at d1 d2 d3 d4 d5 d6 d7;have k1:=cell_regrown s1;have k2:=cell_regrown s2;have e1:=cell_regrown d1;have e2:=cell_regrown d2;have e3:=cell_regrown d3;have e4:=cell_regrown d4;have e5:=cell_regrown d5;have e6:=cell_regrown d6;have e7:=cell_regrown d7;have i1:=zaad (w:=W3) (zaaw ⟨1,ix,⟨x1,x2,x3,x4,x5⟩⟩);simp only [Dd.val,hfit] at i1
 have i2:=zaad (w:=W3) (fun w=>zabh a l.length c st 1 w hl)
 have i3:=zaad (w:=W3) (fun w=>(zaal ix ((l.length:Int)) w).mono fun _ _ ⟨h1,h2⟩=>⟨h1,h2▸Below.refl _ _⟩)
 rw [hidx] at i3;simp only [Int.reduceEq,if_false] at i2;refine wp_region_quiet_below (by kernel_rfl) (by kernel_rfl) ?_
 repeat (first|go_big_quiet_step (first|with_reducible exact i1 _ _|with_reducible exact i2 _ _|with_reducible exact i3 _ _)|quiet_step (first|with_reducible exact i1 _ _|with_reducible exact i2 _ _|with_reducible exact i3 _ _))
 refine wpQuiet_nil ?_;intro _ hw';obtain ⟨⟨dq,osq⟩,hw''⟩:=hw';have hgr:Below W3.heap.size W3 (grow (redrawn W3 dq) osq):=below_regrown W3 dq osq;subst hw'';generalize grow (redrawn W3 dq) osq=W4 at hgr ⊢;clear k1 k2 e1 e2 e3 e4 e5 e6 e7 i1 i2 i3 s0 s1 s2 d0 d1 d2 d3 d4 d5 d6 d7;replace F0:=F0.below hgr;replace A0:=A0.below hgr;replace o1:=o1.below hgr;replace bw2:=bw2.trans (hgr.mono bw2.size);clear hgr W3;obtain ⟨r0,r1,r2,r3,r4⟩:=F0.r;obtain ⟨a0,a1,a2,a3,a4⟩:=A0;go_wp2_with fail;have oF:=((o1.setCell (p:=⟨X+1+1,0,none⟩) hX1 (.int .i64 st)).setCell (p:=⟨X+1+1,1,none⟩) hX1 (.slice av l.length cv)).mono hBw;have bF:Below w.heap.size w ((W4.setCell ⟨X+1+1,0,none⟩ (.int .i64 st)).setCell ⟨X+1+1,1,none⟩ (.slice av l.length cv)):=(bw2.setCell (by show _≤X+1+1;omega) _).setCell (by show _≤X+1+1;omega) _
 exact bodyPost_ret (v:=.tuple #[.agg #[.int .i64 st,.slice av l.length cv],.bool false]) (by simp [results,Tryz.results50,go_sem,r1,r2]) rfl ⟨_,rfl,oF,bF⟩
theorem zark (a:Option Addr) (c:Nat) (st:Int) (l:List Lg) (ix:Int) (g:Lg) (w:World) (hl:l.length≤1048576) (hs:Legs w a l) (hv:svOk ⟨st,l⟩=true) (hfit:ddFits ⟨2,ix,g⟩=true) (hidx:isIdx ix ((l.length:Int))=false) (ht:ddTry ⟨st,l⟩ ⟨2,ix,g⟩=none) :
 Calls Tryz.prog 50 #[.agg #[.int .i64 st,.slice a l.length c],(⟨2,ix,g⟩:Dd).val] w (SvOut (ddDo ⟨st,l⟩ ⟨2,ix,g⟩) w):=by
 rw [zab7 hv ht];obtain ⟨x1,x2,x3,x4,x5⟩:=g
 show Calls Tryz.prog 50 #[.agg #[.int .i64 st,.slice a l.length c],.agg #[.int .i64 2,.int .i64 ix,.int .i64 x1,.int .i64 x2,.int .i64 x3,.int .i64 x4,.int .i64 x5]] w _
 go_enter Tryz.func50,Tryz.ntmps50
 go_wp2_with fail;obtain ⟨X,hX⟩:=qN (w.heap.size);obtain ⟨W0,hW0⟩:=qM (((w.alloc (.cells #[.int .i64 st,.slice a l.length c] 25)).alloc (.cells #[.int .i64 2,.int .i64 ix,.int .i64 x1,.int .i64 x2,.int .i64 x3,.int .i64 x4,.int .i64 x5] 82)).alloc (.cells #[.int .i64 0,.slice none 0 0] 25))
 have F0:Fr W0 X st (.slice a l.length c) ⟨2,ix,⟨x1,x2,x3,x4,x5⟩⟩:=by rw [hW0,← hX];exact Fr.new w st _ ⟨2,ix,⟨x1,x2,x3,x4,x5⟩⟩ _ _ _
 have b0:Below w.heap.size w W0:=by rw [hW0];exact qBl
 rw [hX,← hW0];clear hW0;refine (zaab _ _ st l _ hl (hs.below b0)).mono ?_;rintro e w1 ⟨rfl,b1⟩;rw [hv];replace F0:=F0.below b1;replace b0:=b0.trans (b1.mono b0.size);clear b1 W0;obtain ⟨s0,s1,s2,-,-⟩:=F0.s;go_wp2_with fail;clear s0 s1 s2;have hX1:=F0.r.lt;refine (zaai _ _ st l _ hl (hs.below b0)).mono ?_;rintro e w2 ⟨v,rfl,o1,b1⟩;obtain ⟨av,cv,rfl⟩:=o1.sl;replace F0:=F0.below b1;have bw2:=b0.trans (b1.mono b0.size);have hB1:w1.heap.size≤w2.heap.size:=b1.size;have hBw:=b0.size
 have hoY:∀ k,(Value.slice av l.length cv).ownBlock=some k→k<w2.heap.size:=fun k hk=>(o1.lt hk).2
 clear b1;go_wp2_with fail;obtain ⟨Y,hY⟩:=qN (w2.heap.size);obtain ⟨W3,hW3⟩:=qM (w2.alloc (.cells #[.int .i64 st,.slice av l.length cv] 25))
 have A0:AtS W3 Y st (.slice av l.length cv):=by rw [hW3,← hY];exact AtS.new w2 st _ _
 have b3:Below w2.heap.size w2 W3:=by rw [hW3];exact qBl
 rw [hY,← hW3];clear hW3;replace F0:=F0.below b3;replace o1:=o1.below b3;replace bw2:=bw2.trans (b3.mono bw2.size);rw [hY] at hB1 hoY;clear b3 b0 hY w2;obtain ⟨s0,s1,s2,-,-⟩:=F0.s;obtain ⟨d0,d1,d2,d3,d4,d5,d6,d7⟩:=F0.d;simp only at d1 d2 d3 d4 d5 d6 d7;have k1:=cell_regrown s1;have k2:=cell_regrown s2;have e1:=cell_regrown d1;have e2:=cell_regrown d2;have e3:=cell_regrown d3;have e4:=cell_regrown d4;have e5:=cell_regrown d5;have e6:=cell_regrown d6;have e7:=cell_regrown d7;have i1:=zaad (w:=W3) (zaaw ⟨2,ix,⟨x1,x2,x3,x4,x5⟩⟩);simp only [Dd.val,hfit] at i1
 have i2:=zaad (w:=W3) (fun w=>zabh a l.length c st 2 w hl)
 have i3:=zaad (w:=W3) (fun w=>(zaal ix ((l.length:Int)) w).mono fun _ _ ⟨h1,h2⟩=>⟨h1,h2▸Below.refl _ _⟩)
 rw [hidx] at i3;simp only [Int.reduceEq,if_false] at i2;refine wp_region_quiet_below (by kernel_rfl) (by kernel_rfl) ?_
 repeat (first|go_big_quiet_step (first|with_reducible exact i1 _ _|with_reducible exact i2 _ _|with_reducible exact i3 _ _)|quiet_step (first|with_reducible exact i1 _ _|with_reducible exact i2 _ _|with_reducible exact i3 _ _))
 refine wpQuiet_nil ?_;intro _ hw';obtain ⟨⟨dq,osq⟩,hw''⟩:=hw';have hgr:Below W3.heap.size W3 (grow (redrawn W3 dq) osq):=below_regrown W3 dq osq;subst hw'';generalize grow (redrawn W3 dq) osq=W4 at hgr ⊢;clear k1 k2 e1 e2 e3 e4 e5 e6 e7 i1 i2 i3 s0 s1 s2 d0 d1 d2 d3 d4 d5 d6 d7;replace F0:=F0.below hgr;replace A0:=A0.below hgr;replace o1:=o1.below hgr;replace bw2:=bw2.trans (hgr.mono bw2.size);clear hgr W3;obtain ⟨r0,r1,r2,r3,r4⟩:=F0.r;obtain ⟨a0,a1,a2,a3,a4⟩:=A0;go_wp2_with fail;have oF:=((o1.setCell (p:=⟨X+1+1,0,none⟩) hX1 (.int .i64 st)).setCell (p:=⟨X+1+1,1,none⟩) hX1 (.slice av l.length cv)).mono hBw;have bF:Below w.heap.size w ((W4.setCell ⟨X+1+1,0,none⟩ (.int .i64 st)).setCell ⟨X+1+1,1,none⟩ (.slice av l.length cv)):=(bw2.setCell (by show _≤X+1+1;omega) _).setCell (by show _≤X+1+1;omega) _
 exact bodyPost_ret (v:=.tuple #[.agg #[.int .i64 st,.slice av l.length cv],.bool false]) (by simp [results,Tryz.results50,go_sem,r1,r2]) rfl ⟨_,rfl,oF,bF⟩
theorem zarl (a:Option Addr) (c:Nat) (st:Int) (l:List Lg) (ix:Int) (g:Lg) (w:World) (hl:l.length≤1048576) (hs:Legs w a l) (hv:svOk ⟨st,l⟩=true) (hfit:ddFits ⟨3,ix,g⟩=true) (hidx:isIdx ix ((l.length:Int))=false) (ht:ddTry ⟨st,l⟩ ⟨3,ix,g⟩=none) :
 Calls Tryz.prog 50 #[.agg #[.int .i64 st,.slice a l.length c],(⟨3,ix,g⟩:Dd).val] w (SvOut (ddDo ⟨st,l⟩ ⟨3,ix,g⟩) w):=by
 rw [zab7 hv ht];obtain ⟨x1,x2,x3,x4,x5⟩:=g
 show Calls Tryz.prog 50 #[.agg #[.int .i64 st,.slice a l.length c],.agg #[.int .i64 3,.int .i64 ix,.int .i64 x1,.int .i64 x2,.int .i64 x3,.int .i64 x4,.int .i64 x5]] w _
 go_enter Tryz.func50,Tryz.ntmps50
 go_wp2_with fail;obtain ⟨X,hX⟩:=qN (w.heap.size);obtain ⟨W0,hW0⟩:=qM (((w.alloc (.cells #[.int .i64 st,.slice a l.length c] 25)).alloc (.cells #[.int .i64 3,.int .i64 ix,.int .i64 x1,.int .i64 x2,.int .i64 x3,.int .i64 x4,.int .i64 x5] 82)).alloc (.cells #[.int .i64 0,.slice none 0 0] 25))
 have F0:Fr W0 X st (.slice a l.length c) ⟨3,ix,⟨x1,x2,x3,x4,x5⟩⟩:=by rw [hW0,← hX];exact Fr.new w st _ ⟨3,ix,⟨x1,x2,x3,x4,x5⟩⟩ _ _ _
 have b0:Below w.heap.size w W0:=by rw [hW0];exact qBl
 rw [hX,← hW0];clear hW0;refine (zaab _ _ st l _ hl (hs.below b0)).mono ?_;rintro e w1 ⟨rfl,b1⟩;rw [hv];replace F0:=F0.below b1;replace b0:=b0.trans (b1.mono b0.size);clear b1 W0;obtain ⟨s0,s1,s2,-,-⟩:=F0.s;go_wp2_with fail;clear s0 s1 s2;have hX1:=F0.r.lt;refine (zaai _ _ st l _ hl (hs.below b0)).mono ?_;rintro e w2 ⟨v,rfl,o1,b1⟩;obtain ⟨av,cv,rfl⟩:=o1.sl;replace F0:=F0.below b1;have bw2:=b0.trans (b1.mono b0.size);have hB1:w1.heap.size≤w2.heap.size:=b1.size;have hBw:=b0.size
 have hoY:∀ k,(Value.slice av l.length cv).ownBlock=some k→k<w2.heap.size:=fun k hk=>(o1.lt hk).2
 clear b1;go_wp2_with fail;obtain ⟨Y,hY⟩:=qN (w2.heap.size);obtain ⟨W3,hW3⟩:=qM (w2.alloc (.cells #[.int .i64 st,.slice av l.length cv] 25))
 have A0:AtS W3 Y st (.slice av l.length cv):=by rw [hW3,← hY];exact AtS.new w2 st _ _
 have b3:Below w2.heap.size w2 W3:=by rw [hW3];exact qBl
 rw [hY,← hW3];clear hW3;replace F0:=F0.below b3;replace o1:=o1.below b3;replace bw2:=bw2.trans (b3.mono bw2.size);rw [hY] at hB1 hoY;clear b3 b0 hY w2;obtain ⟨s0,s1,s2,-,-⟩:=F0.s;obtain ⟨d0,d1,d2,d3,d4,d5,d6,d7⟩:=F0.d;simp only at d1 d2 d3 d4 d5 d6 d7;have k1:=cell_regrown s1;have k2:=cell_regrown s2;have e1:=cell_regrown d1;have e2:=cell_regrown d2;have e3:=cell_regrown d3;have e4:=cell_regrown d4;have e5:=cell_regrown d5;have e6:=cell_regrown d6;have e7:=cell_regrown d7;have i1:=zaad (w:=W3) (zaaw ⟨3,ix,⟨x1,x2,x3,x4,x5⟩⟩);simp only [Dd.val,hfit] at i1
 have i2:=zaad (w:=W3) (fun w=>zabh a l.length c st 3 w hl)
 have i3:=zaad (w:=W3) (fun w=>(zaal ix ((l.length:Int)) w).mono fun _ _ ⟨h1,h2⟩=>⟨h1,h2▸Below.refl _ _⟩)
 rw [hidx] at i3;simp only [Int.reduceEq,if_false] at i2;refine wp_region_quiet_below (by kernel_rfl) (by kernel_rfl) ?_
 repeat (first|go_big_quiet_step (first|with_reducible exact i1 _ _|with_reducible exact i2 _ _|with_reducible exact i3 _ _)|quiet_step (first|with_reducible exact i1 _ _|with_reducible exact i2 _ _|with_reducible exact i3 _ _))
 refine wpQuiet_nil ?_;intro _ hw';obtain ⟨⟨dq,osq⟩,hw''⟩:=hw';have hgr:Below W3.heap.size W3 (grow (redrawn W3 dq) osq):=below_regrown W3 dq osq;subst hw'';generalize grow (redrawn W3 dq) osq=W4 at hgr ⊢;clear k1 k2 e1 e2 e3 e4 e5 e6 e7 i1 i2 i3 s0 s1 s2 d0 d1 d2 d3 d4 d5 d6 d7;replace F0:=F0.below hgr;replace A0:=A0.below hgr;replace o1:=o1.below hgr;replace bw2:=bw2.trans (hgr.mono bw2.size);clear hgr W3;obtain ⟨r0,r1,r2,r3,r4⟩:=F0.r;obtain ⟨a0,a1,a2,a3,a4⟩:=A0;go_wp2_with fail;have oF:=((o1.setCell (p:=⟨X+1+1,0,none⟩) hX1 (.int .i64 st)).setCell (p:=⟨X+1+1,1,none⟩) hX1 (.slice av l.length cv)).mono hBw;have bF:Below w.heap.size w ((W4.setCell ⟨X+1+1,0,none⟩ (.int .i64 st)).setCell ⟨X+1+1,1,none⟩ (.slice av l.length cv)):=(bw2.setCell (by show _≤X+1+1;omega) _).setCell (by show _≤X+1+1;omega) _
 exact bodyPost_ret (v:=.tuple #[.agg #[.int .i64 st,.slice av l.length cv],.bool false]) (by simp [results,Tryz.results50,go_sem,r1,r2]) rfl ⟨_,rfl,oF,bF⟩
end Go.Proofs.YthfoloefkfadlaaGreatDoor
