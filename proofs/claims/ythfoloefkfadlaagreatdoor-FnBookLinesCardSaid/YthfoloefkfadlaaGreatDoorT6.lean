/- Walks: spec.ReadDeed. -/
import Derived.Test.YthfoloefkfadlaaGreatDoorT4
import Derived.Test.YthfoloefkfadlaaGreatDoorK3
set_option linter.unusedSimpArgs false
set_option linter.unusedVariables false
set_option maxHeartbeats 4000000
set_option maxRecDepth 100000
namespace Go.Proofs.YthfoloefkfadlaaGreatDoor
open Go Go.RowKit Go.Sort
def DdRet (p:Dd × Bool) (w:World) (e:Ending) (w':World):Prop:=e=.returned (.tuple #[.agg #[.int .i64 p.1.kind,.int .i64 p.1.index,.int .i64 p.1.leg.frm,.int .i64 p.1.leg.to,.int .i64 p.1.leg.east,.int .i64 p.1.leg.north,.int .i64 p.1.leg.up],.bool p.2])∧Below w.heap.size w w'
theorem zayb (s:ByteArray) (w:World) (hs:s.size≤1048576) :
 Calls Tryz.prog 104 #[.string s,.int .u8 32] w fun e w'=>∃ a cp,e=.returned (.slice a (cutB 32 s).length cp)∧OwnT w' w.heap.size (.slice a (cutB 32 s).length cp) (cutB 32 s)∧Below w.heap.size w w':=zaeq s 32 w hs
theorem zaa0 {B:Nat} {w w':World} (h:Below B w w') {X:Nat} (hX:B≤X) (a b c d e f g:Value):Below B w (((((((w'.setCell ⟨X,0,none⟩ a).setCell ⟨X,1,none⟩ b).setCell ⟨X,2,none⟩ c).setCell ⟨X,3,none⟩ d).setCell ⟨X,4,none⟩ e).setCell ⟨X,5,none⟩ f).setCell ⟨X,6,none⟩ g) :=
 ((((((h.setCell (p:=⟨X,0,none⟩) hX a).setCell (p:=⟨X,1,none⟩) hX b).setCell (p:=⟨X,2,none⟩) hX c).setCell (p:=⟨X,3,none⟩) hX d).setCell (p:=⟨X,4,none⟩) hX e).setCell (p:=⟨X,5,none⟩) hX f).setCell (p:=⟨X,6,none⟩) hX g
theorem zan6 (s:ByteArray) (w:World) (hs:s.size≤1048576):Calls Tryz.prog 56 #[.string s] w (DdRet (rdDdD s) w):=by
 have hlen:=zag5 32 s
 have hle:∀ j,j<(cutB 32 s).length→(nth (cutB 32 s) j).size≤1048576:=fun j hj=>Nat.le_trans (zadt (zaaf hj)) hs
 have i1:=zayb s;have HE:=Lib.hid (show candD (cutB 32 s)=⟨kindF (nth (cutB 32 s) 0),if 1<(cutB 32 s).length then rdL (nth (cutB 32 s) 1).data.toList else 0,if 2<(cutB 32 s).length then (rdLegD (nth (cutB 32 s) 2)).1 else noLeg⟩ from rfl);have HY:=Lib.hid (@zau6 s);have HN:=Lib.hid (@zam5 s);have hb20:=zaw9 32 s;obtain ⟨ws,hws⟩:=qM (cutB 32 s);rw [← hws] at hlen hle i1 HE HY HN hb20;have HS:=Lib.hid hle;clear hws hle;obtain ⟨N,hN⟩:=qM (ws.length);have HL:=Lib.hid hN;rw [← hN] at i1 hlen hb20;clear hN
 go_enter Tryz.func56,Tryz.ntmps56
 go_wp2_with fail;obtain ⟨X,hX⟩:=qN (w.heap.size);obtain ⟨W0,hW0⟩:=qM (w.alloc (.cells #[.int .i64 0,.int .i64 0,.int .i64 0,.int .i64 0,.int .i64 0,.int .i64 0,.int .i64 0] 82))
 have F0:At W0 X [.int .i64 0,.int .i64 0,.int .i64 0,.int .i64 0,.int .i64 0,.int .i64 0,.int .i64 0]:=by rw [hW0];exact At.new _ _ _ hX.symm rfl
 have b0:Below w.heap.size w W0:=by rw [hW0];exact qBl
 rw [hX,← hW0];clear hW0;refine (i1 _ hs).mono ?_;rintro e w1 ⟨a1,c1,rfl,o1,b1⟩;replace F0:=F0.below b1;replace b0:=b0.trans (b1.mono b0.size);clear b1 i1;obtain ⟨P,rfl,hP1,hPl,hc1⟩:=OwnT.cells o1 (by rw [← HL.out];exact hlen);have T0:∀ j,j<ws.length→w1.cell? ⟨P,j,none⟩=some (.string (nth ws j)):=hc1;have HT:=Lib.hid T0;clear hc1 o1 T0;go_wp2_with fail;obtain ⟨Y,hY⟩:=qN (w1.heap.size);obtain ⟨V,hV⟩:=qM (w1.alloc (.cells #[.int .i64 (-1),.int .i64 0,.int .i64 0,.int .i64 0,.int .i64 0,.int .i64 0,.int .i64 0] 82))
 have A0:At V Y [.int .i64 (-1),.int .i64 0,.int .i64 0,.int .i64 0,.int .i64 0,.int .i64 0,.int .i64 0]:=by rw [hV];exact At.new _ _ _ hY.symm rfl
 have bV:Below w1.heap.size w1 V:=by rw [hV];exact qBl
 rw [hY,← hV]
 have hXY:X≠Y:=by have:=F0.lt;omega
 have hPY:P≠Y:=qO
 have hwY:w.heap.size≤Y:=by have:=b0.size;omega
 replace F0:=F0.below bV;replace b0:=b0.trans (bV.mono b0.size)
 replace HT:=Lib.hid (fun j (hj:j<ws.length)=>(bV.cell (p:=⟨P,j,none⟩) hPl).trans (HT.out j hj))
 replace hPl:=Nat.lt_of_lt_of_le hPl bV.size;clear bV hV hY
 go_loopw [6] (fun i wr=>∃ k:Nat,k≤6∧i=.int .i64 k∧At wr X [.int .i64 0,.int .i64 0,.int .i64 0,.int .i64 0,.int .i64 0,.int .i64 0,.int .i64 0]∧At wr Y [.int .i64 (kindU (nth ws 0) k),.int .i64 0,.int .i64 0,.int .i64 0,.int .i64 0,.int .i64 0,.int .i64 0]∧P<wr.heap.size∧Hid (∀ j,j<ws.length→wr.cell? ⟨P,j,none⟩=some (.string (nth ws j)))∧Below w.heap.size w wr) (fun i _=>6 - (intOf i).toNat)
 case atStart=>exact ⟨0,by omega,rfl,F0,A0,hPl,HT,b0⟩
 case round =>
  obtain ⟨k,hk,rfl,F,A,hPl2,HT2,hb⟩:=hrel;clear F0 A0 hPl HT b0;have m0:=HT2.out 0 (by rw [← HL.out];exact hlen)
  by_cases hlt:k<6
  · have i2:=zala (k:Int) qO
    have hkr:=zagb (nth ws 0) k;have HU:=Lib.hid (show kindU (nth ws 0) (k+1)=if nth ws 0=nameB (k:Int) then (k:Int) else kindU (nth ws 0) k from rfl);obtain ⟨w0,hw0⟩:=qN (nth ws 0);rw [hw0] at m0 HU A hkr ⊢;obtain ⟨NB,hNB⟩:=qN (nameB (k:Int));rw [hNB] at HU i2;obtain ⟨kd,hkd⟩:=qN (kindU w0 k);rw [hkd] at A hkr HU;have heq:=zam3 w0 NB;have hk6:(k:Int)≤5:=qO;clear hNB hkd;go_upto_region 6 with fail
    go_cut [21] (fun v wx=>v=.bool (decide (w0=NB))∧Below wr.heap.size wr wx)
    case first =>
     go_region_held3 (fun w'=>Below wr.heap.size wr w'∧∀ b o,b<wr.heap.size→w'.cell? ⟨b,o,none⟩=wr.cell? ⟨b,o,none⟩) (exact kept qHb)
      ((go_at_call 105;refine (i2 _).mono ?_;rintro e wz ⟨rfl,c⟩;have Bz:=zaae (V:=wr) qHb c;have zz:=Bz.size;clear c))
     all_goals (go_wp2_with fail;go_meet)
     all_goals exact ⟨by first|rfl|rw [heq],qHb⟩
    case rest =>
     obtain ⟨rfl,bb⟩:=hcut;replace F:=F.below bb;replace A:=A.below bb;replace hb:=hb.trans (bb.mono hb.size)
     have HT3:=Lib.hid (fun j (hj:j<ws.length)=>(bb.cell (p:=⟨P,j,none⟩) hPl2).trans (HT2.out j hj))
     have hPl3:=Nat.lt_of_lt_of_le hPl2 bb.size;clear bb HT2 m0 heq;have af:=A.f 0;have ac:=A.c 0 _ rfl
     by_cases hq:w0=NB
     · rw [if_pos hq] at HU
       rw [decide_eq_true hq];clear hq;go_wp2_with fail;go_roundw
       case rel=>exact ⟨k+1,by omega,by go_num,F.setOther hXY _,by rw [HU.out];exact A.set 0 _,by simpa [World.setCell] using hPl3,Lib.hid (fun j hj=>by rw [World.cell?_setCell_other _ _ _ _ (by intro e;injection e with e _;exact hPY e.symm)];exact HT3.out j hj),hb.setCell (by show w.heap.size≤Y;exact hwY) _⟩
       case measure=>simp [intOf];omega
     · rw [if_neg hq] at HU
       rw [decide_eq_false hq];clear hq;go_wp2_with fail;go_roundw
       case rel=>exact ⟨k+1,by omega,by go_num,F,by rw [HU.out];exact A,hPl3,HT3,hb⟩
       case measure=>simp [intOf];omega
  · obtain rfl:k=6:=by omega
    rw [zam4] at A;clear m0 hlt hk;obtain ⟨kd,hkd⟩:=qN (kindF (nth ws 0));rw [hkd] at A HE;clear hkd
    by_cases h1:1<N
    · have m1:=HT2.out 1 (by rw [← HL.out];exact h1)
      have z1:=HS.out 1 (by rw [← HL.out];exact h1);have hv:=zadu (nth ws 1).data.toList;have i3:=zab9 (nth ws 1);rw [← HL.out,if_pos h1] at HE;obtain ⟨w1s,hw1⟩:=qN (nth ws 1);rw [hw1] at m1 i3 hv z1 HE;clear hw1;obtain ⟨v,hvv⟩:=qN (rdL w1s.data.toList);rw [hvv] at i3 hv HE;clear hvv
      by_cases h2:2<N
      · rw [if_pos h2] at HE
        have m2:=HT2.out 2 (by rw [← HL.out];exact h2)
        have i4:=fun w=>zaqi (nth ws 2) w (HS.out 2 (by rw [← HL.out];exact h2))
        obtain ⟨w2s,hw2⟩:=qN (nth ws 2);rw [hw2] at m2 i4 HE;clear hw2;obtain ⟨pr,hpr⟩:=qN (rdLegD w2s);rw [hpr] at i4 HE;clear hpr;obtain ⟨⟨g1,g2,g3,g4,g5⟩,gb⟩:=pr;rw [HE.out] at HY HN;clear HE HT2;have it:=zadk ⟨kd,v,⟨g1,g2,g3,g4,g5⟩⟩;simp only [Dd.val] at it;obtain ⟨L,hL⟩:=qM (deedB ⟨kd,v,⟨g1,g2,g3,g4,g5⟩⟩);rw [← hL] at it HY HN;clear hL;have hem:=zac2 s;obtain ⟨yl,y0,y1,y2,y3,y4,y5,y6,yf⟩:=id A.facts7;obtain ⟨r,r0,r1,r2,r3,r4,r5,r6,rf⟩:=id F.facts7
        go_wp2_with (go_at_call 106;refine (i3 _).mono ?_;rintro e wz ⟨rfl,rfl⟩)
        replace F:=F.setOther (p:=⟨Y,1,none⟩) hXY (.int .i64 v);replace A:=A.set 1 (.int .i64 v);replace hb:=hb.setCell (p:=⟨Y,1,none⟩) (by show w.heap.size≤Y;exact hwY) (.int .i64 v);simp only [List.set_cons_succ,List.set_cons_zero] at A;clear y0 y1 y2 y3 y4 y5 y6 yf yl r r0 r1 r2 r3 r4 r5 r6 rf;clear m1 i3;refine (i4 _).mono ?_;rintro e w8 ⟨rfl,b8⟩;replace F:=F.below b8;replace A:=A.below b8;replace hb:=hb.trans (b8.mono hb.size);clear b8 i4 m2;obtain ⟨yl,y0,y1,y2,y3,y4,y5,y6,yf⟩:=id A.facts7;obtain ⟨r,r0,r1,r2,r3,r4,r5,r6,rf⟩:=id F.facts7;have hbY:=((((hb.setCell (p:=⟨Y,2,none⟩) (by show w.heap.size≤Y;exact hwY) (.int .i64 g1)).setCell (p:=⟨Y,3,none⟩) (by show w.heap.size≤Y;exact hwY) (.int .i64 g2)).setCell (p:=⟨Y,4,none⟩) (by show w.heap.size≤Y;exact hwY) (.int .i64 g3)).setCell (p:=⟨Y,5,none⟩) (by show w.heap.size≤Y;exact hwY) (.int .i64 g4)).setCell (p:=⟨Y,6,none⟩) (by show w.heap.size≤Y;exact hwY) (.int .i64 g5)
        by_cases h0:s.size=0
        · rw [decide_eq_true h0] at hem
          have HE2:=Lib.hid (HN.out (fun h=>h.2 h0))
          clear h0 it HY HN;go_wp2_with fail;refine bodyPost_ret (v:=.tuple #[.agg #[.int .i64 0,.int .i64 0,.int .i64 0,.int .i64 0,.int .i64 0,.int .i64 0,.int .i64 0],.bool false]) (by simp [results,Tryz.results56,go_sem,r,r0,r1,r2,r3,r4,r5,r6]) rfl ⟨by rw [HE2.out];rfl,?_⟩
          exact (zaa0 hbY qO _ _ _ _ _ _ _).alloc (zaa0 hbY qO _ _ _ _ _ _ _).size _
        rw [decide_eq_false h0] at hem;go_wp2_with fail;replace F:=((((((F.setOther (p:=⟨Y,2,none⟩) hXY (.int .i64 g1)).setOther (p:=⟨Y,3,none⟩) hXY (.int .i64 g2)).setOther (p:=⟨Y,4,none⟩) hXY (.int .i64 g3)).setOther (p:=⟨Y,5,none⟩) hXY (.int .i64 g4)).setOther (p:=⟨Y,6,none⟩) hXY (.int .i64 g5)).alloc (.cells #[.int .i64 g1,.int .i64 g2,.int .i64 g3,.int .i64 g4,.int .i64 g5] 75));replace A:=((((((A.set 2 (.int .i64 g1)).set 3 (.int .i64 g2)).set 4 (.int .i64 g3)).set 5 (.int .i64 g4)).set 6 (.int .i64 g5)).alloc (.cells #[.int .i64 g1,.int .i64 g2,.int .i64 g3,.int .i64 g4,.int .i64 g5] 75));replace hb:=hbY.alloc hbY.size (.cells #[.int .i64 g1,.int .i64 g2,.int .i64 g3,.int .i64 g4,.int .i64 g5] 75);simp only [List.set_cons_succ,List.set_cons_zero] at A;clear y0 y1 y2 y3 y4 y5 y6 yf yl r r0 r1 r2 r3 r4 r5 r6 rf;clear hbY;refine (it _).mono ?_;rintro e w9 ⟨rfl,b9⟩;replace F:=F.below b9;replace A:=A.below b9;replace hb:=hb.trans (b9.mono hb.size);clear b9 it;obtain ⟨yl,y0,y1,y2,y3,y4,y5,y6,yf⟩:=id A.facts7;obtain ⟨r,r0,r1,r2,r3,r4,r5,r6,rf⟩:=id F.facts7;clear A F;have hne:=zaca L s
        by_cases hLs:L=s
        · subst hLs
          simp only [decide_true,Bool.not_true] at hne;have HE2:=Lib.hid (HY.out rfl h0);clear h0 HY HN;go_wp2_with fail;refine bodyPost_ret (v:=.tuple #[.agg #[.int .i64 kd,.int .i64 v,.int .i64 g1,.int .i64 g2,.int .i64 g3,.int .i64 g4,.int .i64 g5],.bool true]) (by simp [results,Tryz.results56,go_sem,r0,r1,r2,r3,r4,r5,r6]) rfl ⟨by rw [HE2.out],?_⟩
          exact zaa0 hb qO _ _ _ _ _ _ _
        · rw [decide_eq_false hLs,Bool.not_false] at hne
          have HE2:=Lib.hid (HN.out (fun h=>hLs h.1))
          have hne2:¬ L.toList=s.toList:=by rw [zaco];exact hLs
          have hne3:(L.toList == s.toList)=false:=by simpa using hne2
          clear h0 HY HN hLs;go_wp2_with fail;refine bodyPost_ret (v:=.tuple #[.agg #[.int .i64 0,.int .i64 0,.int .i64 0,.int .i64 0,.int .i64 0,.int .i64 0,.int .i64 0],.bool false]) (by simp [results,Tryz.results56,go_sem,r0,r1,r2,r3,r4,r5,r6]) rfl ⟨by rw [HE2.out];rfl,?_⟩
          exact zaa0 hb qO _ _ _ _ _ _ _
      · rw [if_neg h2] at HE
        rw [HE.out] at HY HN;clear HE HT2;simp only [noLeg] at HY HN;have it:=zadk ⟨kd,v,⟨0,0,0,0,0⟩⟩;simp only [Dd.val] at it;obtain ⟨L,hL⟩:=qM (deedB ⟨kd,v,⟨0,0,0,0,0⟩⟩);rw [← hL] at it HY HN;clear hL;have hem:=zac2 s;obtain ⟨yl,y0,y1,y2,y3,y4,y5,y6,yf⟩:=id A.facts7;obtain ⟨r,r0,r1,r2,r3,r4,r5,r6,rf⟩:=id F.facts7
        by_cases h0:s.size=0
        · rw [decide_eq_true h0] at hem
          have HE2:=Lib.hid (HN.out (fun h=>h.2 h0))
          clear h0 it HY HN A F
          go_wp2_with (go_at_call 106;refine (i3 _).mono ?_;rintro e wz ⟨rfl,rfl⟩)
          refine bodyPost_ret (v:=.tuple #[.agg #[.int .i64 0,.int .i64 0,.int .i64 0,.int .i64 0,.int .i64 0,.int .i64 0,.int .i64 0],.bool false]) (by simp [results,Tryz.results56,go_sem,r0,r1,r2,r3,r4,r5,r6]) rfl ⟨by rw [HE2.out];rfl,?_⟩
          exact zaa0 (hb.setCell (p:=⟨Y,1,none⟩) (by show w.heap.size≤Y;exact hwY) _) qO _ _ _ _ _ _ _
        rw [decide_eq_false h0] at hem
        go_wp2_with (go_at_call 106;refine (i3 _).mono ?_;rintro e wz ⟨rfl,rfl⟩)
        replace F:=F.setOther (p:=⟨Y,1,none⟩) hXY (.int .i64 v);replace A:=A.set 1 (.int .i64 v);replace hb:=hb.setCell (p:=⟨Y,1,none⟩) (by show w.heap.size≤Y;exact hwY) (.int .i64 v);simp only [List.set_cons_succ,List.set_cons_zero] at A;clear y0 y1 y2 y3 y4 y5 y6 yf yl r r0 r1 r2 r3 r4 r5 r6 rf;refine (it _).mono ?_;rintro e w9 ⟨rfl,b9⟩;replace F:=F.below b9;replace A:=A.below b9;replace hb:=hb.trans (b9.mono hb.size);clear b9 it;obtain ⟨yl,y0,y1,y2,y3,y4,y5,y6,yf⟩:=id A.facts7;obtain ⟨r,r0,r1,r2,r3,r4,r5,r6,rf⟩:=id F.facts7;clear A F;have hne:=zaca L s
        by_cases hLs:L=s
        · subst hLs
          simp only [decide_true,Bool.not_true] at hne;have HE2:=Lib.hid (HY.out rfl h0);clear h0 HY HN;go_wp2_with fail;refine bodyPost_ret (v:=.tuple #[.agg #[.int .i64 kd,.int .i64 v,.int .i64 0,.int .i64 0,.int .i64 0,.int .i64 0,.int .i64 0],.bool true]) (by simp [results,Tryz.results56,go_sem,r0,r1,r2,r3,r4,r5,r6]) rfl ⟨by rw [HE2.out],?_⟩
          exact zaa0 hb qO _ _ _ _ _ _ _
        · rw [decide_eq_false hLs,Bool.not_false] at hne
          have HE2:=Lib.hid (HN.out (fun h=>hLs h.1))
          have hne2:¬ L.toList=s.toList:=by rw [zaco];exact hLs
          have hne3:(L.toList == s.toList)=false:=by simpa using hne2
          clear h0 HY HN hLs;go_wp2_with fail;refine bodyPost_ret (v:=.tuple #[.agg #[.int .i64 0,.int .i64 0,.int .i64 0,.int .i64 0,.int .i64 0,.int .i64 0,.int .i64 0],.bool false]) (by simp [results,Tryz.results56,go_sem,r0,r1,r2,r3,r4,r5,r6]) rfl ⟨by rw [HE2.out];rfl,?_⟩
          exact zaa0 hb qO _ _ _ _ _ _ _
    · have h2:¬ 2<N:=by omega
      rw [← HL.out,if_neg h1,if_neg h2] at HE;rw [HE.out] at HY HN;clear HE HT2;simp only [noLeg] at HY HN;have it:=zadk ⟨kd,0,⟨0,0,0,0,0⟩⟩;simp only [Dd.val] at it;obtain ⟨L,hL⟩:=qM (deedB ⟨kd,0,⟨0,0,0,0,0⟩⟩);rw [← hL] at it HY HN;clear hL;have hem:=zac2 s;obtain ⟨yl,y0,y1,y2,y3,y4,y5,y6,yf⟩:=id A.facts7;obtain ⟨r,r0,r1,r2,r3,r4,r5,r6,rf⟩:=id F.facts7
      by_cases h0:s.size=0
      · rw [decide_eq_true h0] at hem
        have HE2:=Lib.hid (HN.out (fun h=>h.2 h0))
        clear h0 it HY HN A F;go_wp2_with fail;refine bodyPost_ret (v:=.tuple #[.agg #[.int .i64 0,.int .i64 0,.int .i64 0,.int .i64 0,.int .i64 0,.int .i64 0,.int .i64 0],.bool false]) (by simp [results,Tryz.results56,go_sem,r0,r1,r2,r3,r4,r5,r6]) rfl ⟨by rw [HE2.out];rfl,?_⟩
        exact zaa0 hb qO _ _ _ _ _ _ _
      rw [decide_eq_false h0] at hem;go_wp2_with fail;clear y0 y1 y2 y3 y4 y5 y6 yf yl r r0 r1 r2 r3 r4 r5 r6 rf;refine (it _).mono ?_;rintro e w9 ⟨rfl,b9⟩;replace F:=F.below b9;replace A:=A.below b9;replace hb:=hb.trans (b9.mono hb.size);clear b9 it;obtain ⟨yl,y0,y1,y2,y3,y4,y5,y6,yf⟩:=id A.facts7;obtain ⟨r,r0,r1,r2,r3,r4,r5,r6,rf⟩:=id F.facts7;clear A F;have hne:=zaca L s
      by_cases hLs:L=s
      · subst hLs
        simp only [decide_true,Bool.not_true] at hne;have HE2:=Lib.hid (HY.out rfl h0);clear h0 HY HN;go_wp2_with fail;refine bodyPost_ret (v:=.tuple #[.agg #[.int .i64 kd,.int .i64 0,.int .i64 0,.int .i64 0,.int .i64 0,.int .i64 0,.int .i64 0],.bool true]) (by simp [results,Tryz.results56,go_sem,r0,r1,r2,r3,r4,r5,r6]) rfl ⟨by rw [HE2.out],?_⟩
        exact zaa0 hb qO _ _ _ _ _ _ _
      · rw [decide_eq_false hLs,Bool.not_false] at hne
        have HE2:=Lib.hid (HN.out (fun h=>hLs h.1))
        have hne2:¬ L.toList=s.toList:=by rw [zaco];exact hLs
        have hne3:(L.toList == s.toList)=false:=by simpa using hne2
        clear h0 HY HN hLs;go_wp2_with fail;refine bodyPost_ret (v:=.tuple #[.agg #[.int .i64 0,.int .i64 0,.int .i64 0,.int .i64 0,.int .i64 0,.int .i64 0,.int .i64 0],.bool false]) (by simp [results,Tryz.results56,go_sem,r0,r1,r2,r3,r4,r5,r6]) rfl ⟨by rw [HE2.out];rfl,?_⟩
        exact zaa0 hb qO _ _ _ _ _ _ _
set_option maxHeartbeats 4000000
theorem zah6 (s:ByteArray) (w:World) (hs:s.size≤1048576) (hw:Lby w):Calls Tryz.prog 49 #[.string s] w (DdRet (rdDdD s) w):=by
 have hem:=zac2 s
 by_cases h0:s.size=0
 · rw [decide_eq_true h0] at hem
   have HE2:=Lib.hid (@zam5 s (fun h=>h.2 h0))
   clear h0
   go_enter Tryz.func49,Tryz.ntmps49
   go_wp2_with fail;refine bodyPost_ret (v:=.tuple #[.agg #[.int .i64 0,.int .i64 0,.int .i64 0,.int .i64 0,.int .i64 0,.int .i64 0,.int .i64 0],.bool false]) (by simp [results,Tryz.results49,go_sem]) rfl ⟨by rw [HE2.out];rfl,?_⟩
   exact qBl
 rw [decide_eq_false h0] at hem;have hlen:=(zak0 s).1;have hlen4:=(zak0 s).2
 have hle:∀ j,j<(wordsI s).length→(nth (wordsI s) j).size≤1048576:=fun j hj=>Nat.le_trans (zaru s hj) hs
 have i1:=fun w hw=>zatm s w hs hw
 have HB1:=Lib.hid (@zaw1 s);have HB2:=Lib.hid (@zaw2 s)
 have HC:=Lib.hid (fun v g=>@zaw3 s h0 v g)
 obtain ⟨ws,hws⟩:=qM (wordsI s);rw [← hws] at hlen hlen4 hle i1 HB1 HB2 HC;have HS:=Lib.hid hle;clear hws hle h0;obtain ⟨N,hN⟩:=qM (ws.length);have HL:=Lib.hid hN;rw [← hN] at i1 hlen hlen4;clear hN;obtain ⟨cap,hcap⟩:=qM (min 4 (s.size+1));rw [← hcap] at i1;clear hcap
 go_enter Tryz.func49,Tryz.ntmps49
 go_wp2_with fail;obtain ⟨X,hX⟩:=qN (w.heap.size);obtain ⟨W0,hW0⟩:=qM (w.alloc (.cells #[.int .i64 0,.int .i64 0,.int .i64 0,.int .i64 0,.int .i64 0,.int .i64 0,.int .i64 0] 82))
 have F0:At W0 X [.int .i64 0,.int .i64 0,.int .i64 0,.int .i64 0,.int .i64 0,.int .i64 0,.int .i64 0]:=by rw [hW0];exact At.new _ _ _ hX.symm rfl
 have b0:Below w.heap.size w W0:=by rw [hW0];exact qBl
 rw [hX,← hW0];clear hW0 hem;refine (i1 _ (hw.below b0)).mono ?_;rintro e w1 ⟨rfl,b1⟩;obtain ⟨P,hP⟩:=qN (W0.heap.size)
 have T1:At w1 P (Lib.cellsOf ws cap).toList:=by rw [← b1];exact At.new _ _ _ hP.symm rfl
 have hPl:=T1.lt
 have HT:=Lib.hid (fun j (hj:j<ws.length)=>T1.c j _ (zarv ws cap hj))
 have bb:Below W0.heap.size W0 w1:=by rw [← b1];exact qBl
 replace F0:=F0.below bb;replace b0:=b0.trans (bb.mono b0.size);rw [hP];clear b1 i1 T1 bb hP;go_wp2_with fail;obtain ⟨Y,hY⟩:=qN (w1.heap.size);obtain ⟨V,hV⟩:=qM (w1.alloc (.cells #[.int .i64 (-1),.int .i64 0,.int .i64 0,.int .i64 0,.int .i64 0,.int .i64 0,.int .i64 0] 82))
 have A0:At V Y [.int .i64 (-1),.int .i64 0,.int .i64 0,.int .i64 0,.int .i64 0,.int .i64 0,.int .i64 0]:=by rw [hV];exact At.new _ _ _ hY.symm rfl
 have bV:Below w1.heap.size w1 V:=by rw [hV];exact qBl
 rw [hY,← hV]
 have hXY:X≠Y:=by have:=F0.lt;omega
 have hPY:P≠Y:=qO
 have hwY:w.heap.size≤Y:=by have:=b0.size;omega
 replace F0:=F0.below bV;replace b0:=b0.trans (bV.mono b0.size)
 replace HT:=Lib.hid (fun j (hj:j<ws.length)=>(bV.cell (p:=⟨P,j,none⟩) hPl).trans (HT.out j hj))
 replace hPl:=Nat.lt_of_lt_of_le hPl bV.size;clear bV hV hY
 go_loopw [6] (fun i wr=>∃ k:Nat,k≤6∧i=.int .i64 k∧At wr X [.int .i64 0,.int .i64 0,.int .i64 0,.int .i64 0,.int .i64 0,.int .i64 0,.int .i64 0]∧At wr Y [.int .i64 (kindU (nth ws 0) k),.int .i64 0,.int .i64 0,.int .i64 0,.int .i64 0,.int .i64 0,.int .i64 0]∧P<wr.heap.size∧Hid (∀ j,j<ws.length→wr.cell? ⟨P,j,none⟩=some (.string (nth ws j)))∧Below w.heap.size w wr) (fun i _=>6 - (intOf i).toNat)
 case atStart=>exact ⟨0,by omega,rfl,F0,A0,hPl,HT,b0⟩
 case round =>
  obtain ⟨k,hk,rfl,F,A,hPl2,HT2,hb⟩:=hrel;clear F0 A0 hPl HT b0;have m0:=HT2.out 0 (by rw [← HL.out];exact hlen)
  by_cases hlt:k<6
  · have i2:=zaib (k:Int) qO
    have hkr:=zagb (nth ws 0) k;have HU:=Lib.hid (show kindU (nth ws 0) (k+1)=if nth ws 0=nameB (k:Int) then (k:Int) else kindU (nth ws 0) k from rfl);obtain ⟨w0,hw0⟩:=qN (nth ws 0);rw [hw0] at m0 HU A hkr ⊢;obtain ⟨NB,hNB⟩:=qN (nameB (k:Int));rw [hNB] at HU i2;obtain ⟨kd,hkd⟩:=qN (kindU w0 k);rw [hkd] at A hkr HU;have heq:=zam3 NB w0;have hk6:(k:Int)≤5:=qO;clear hNB hkd;go_upto_region 8 with fail
    go_cut [26] (fun v wx=>v=.bool (decide (NB=w0))∧Below wr.heap.size wr wx)
    case first =>
     go_region_held3 (fun w'=>Below wr.heap.size wr w'∧∀ b o,b<wr.heap.size→w'.cell? ⟨b,o,none⟩=wr.cell? ⟨b,o,none⟩) (exact kept qHb)
      ((go_at_call 96;refine (i2 _).mono ?_;rintro e wz ⟨rfl,rfl⟩))
     all_goals (go_wp2_with fail;go_meet)
     all_goals exact ⟨by first|rfl|rw [heq],qHb⟩
    case rest =>
     obtain ⟨rfl,bb⟩:=hcut;replace F:=F.below bb;replace A:=A.below bb;replace hb:=hb.trans (bb.mono hb.size)
     have HT3:=Lib.hid (fun j (hj:j<ws.length)=>(bb.cell (p:=⟨P,j,none⟩) hPl2).trans (HT2.out j hj))
     have hPl3:=Nat.lt_of_lt_of_le hPl2 bb.size;clear bb HT2 m0 heq;have af:=A.f 0;have ac:=A.c 0 _ rfl
     by_cases hq:NB=w0
     · rw [if_pos hq.symm] at HU
       rw [decide_eq_true hq];clear hq;go_wp2_with fail;go_roundw
       case rel=>exact ⟨k+1,by omega,by go_num,F.setOther hXY _,by rw [HU.out];exact A.set 0 _,by simpa [World.setCell] using hPl3,Lib.hid (fun j hj=>by rw [World.cell?_setCell_other _ _ _ _ (by intro e;injection e with e _;exact hPY e.symm)];exact HT3.out j hj),hb.setCell (by show w.heap.size≤Y;exact hwY) _⟩
       case measure=>simp [intOf];omega
     · rw [if_neg (fun e=>hq e.symm)] at HU
       rw [decide_eq_false hq];clear hq;go_wp2_with fail;go_roundw
       case rel=>exact ⟨k+1,by omega,by go_num,F,by rw [HU.out];exact A,hPl3,HT3,hb⟩
       case measure=>simp [intOf];omega
  · obtain rfl:k=6:=by omega
    rw [zam4] at A;clear m0 hlt hk;obtain ⟨kd,hkd⟩:=qN (kindF (nth ws 0));rw [hkd] at A HC;clear hkd
    by_cases h1:1<N
    · have m1:=HT2.out 1 (by rw [← HL.out];exact h1)
      have z1:=HS.out 1 (by rw [← HL.out];exact h1)
      cases ha:atoF (nth ws 1) with
      | none =>
        have HD:=Lib.hid (HB1.out (by rw [← HL.out];exact h1) ha)
        have i3:=fun w hw=>zagm ha w z1 hw
        clear ha HC HB1 HB2;obtain ⟨w1s,hw1⟩:=qN (nth ws 1);rw [hw1] at m1 i3 z1;clear hw1;go_wp2_with fail;refine (i3 _ (hw.below hb)).mono ?_;rintro e w8 ⟨v,te,pe,rfl,b8⟩;replace F:=F.below b8;replace hb:=hb.trans (b8.mono hb.size);clear b8 i3 m1;obtain ⟨r,r0,r1,r2,r3,r4,r5,r6,rf⟩:=id F.facts7;clear F A;go_wp2_with fail;refine bodyPost_ret (v:=.tuple #[.agg #[.int .i64 0,.int .i64 0,.int .i64 0,.int .i64 0,.int .i64 0,.int .i64 0,.int .i64 0],.bool false]) (by simp [results,Tryz.results49,go_sem,r0,r1,r2,r3,r4,r5,r6]) rfl ⟨by rw [HD.out];rfl,?_⟩
        exact zaa0 hb qO _ _ _ _ _ _ _
      | some v =>
        have i3:=fun w=>zae9 ha w z1
        have HCv:=Lib.hid (fun g=>HC.out v g (fun _=>ha) (fun h=>absurd (by rw [← HL.out];exact h1) h))
        clear ha HB1 HC;obtain ⟨w1s,hw1⟩:=qN (nth ws 1);rw [hw1] at m1 i3 z1;clear hw1
        by_cases h2:2<N
        · have m2:=HT2.out 2 (by rw [← HL.out];exact h2)
          have hmu:=hPl2;have z2:=HS.out 2 (by rw [← HL.out];exact h2)
          have i4:=fun w hw=>zai5 (nth ws 2) w z2 hw
          have HBx:=Lib.hid (HB2.out (by rw [← HL.out];exact h2))
          have HCg:=Lib.hid (fun g (hg:rdLegD (nth ws 2)=(g,true))=>HCv.out g (fun _=>hg) (fun h=>absurd (by rw [← HL.out];exact h2) h))
          clear HB2 HCv HT2;obtain ⟨w2s,hw2⟩:=qN (nth ws 2);rw [hw2] at m2 i4 HBx HCg z2;clear hw2;obtain ⟨pr,hpr⟩:=qN (rdLegD w2s);rw [hpr] at i4 HBx HCg;clear hpr;obtain ⟨⟨g1,g2,g3,g4,g5⟩,gb⟩:=pr;obtain ⟨yl,y0,y1,y2,y3,y4,y5,y6,yf⟩:=id A.facts7;obtain ⟨r,r0,r1,r2,r3,r4,r5,r6,rf⟩:=id F.facts7;go_wp2_with fail;refine (i3 _).mono ?_;rintro e w7 ⟨rfl,b7⟩;replace F:=F.below b7;replace A:=A.below b7;replace m2:=(b7.cell (p:=⟨P,2,none⟩) hmu).trans m2;replace hmu:=Nat.lt_of_lt_of_le hmu b7.size;replace hb:=hb.trans (b7.mono hb.size);clear y0 y1 y2 y3 y4 y5 y6 yf yl r r0 r1 r2 r3 r4 r5 r6 rf;clear b7 i3 m1;obtain ⟨yl,y0,y1,y2,y3,y4,y5,y6,yf⟩:=id A.facts7;obtain ⟨r,r0,r1,r2,r3,r4,r5,r6,rf⟩:=id F.facts7;have hPY2:¬ P=Y:=hPY;go_wp2_with fail;replace F:=F.setOther (p:=⟨Y,1,none⟩) hXY (.int .i64 v);replace A:=A.set 1 (.int .i64 v);replace hb:=hb.setCell (p:=⟨Y,1,none⟩) (by show w.heap.size≤Y;exact hwY) (.int .i64 v);simp only [List.set_cons_succ,List.set_cons_zero] at A;clear y0 y1 y2 y3 y4 y5 y6 yf yl r r0 r1 r2 r3 r4 r5 r6 rf;clear m2 hmu;refine (i4 _ (hw.below hb)).mono ?_;rintro e w8 ⟨rfl,b8⟩;replace F:=F.below b8;replace A:=A.below b8;replace hb:=hb.trans (b8.mono hb.size);clear b8 i4;obtain ⟨yl,y0,y1,y2,y3,y4,y5,y6,yf⟩:=id A.facts7;obtain ⟨r,r0,r1,r2,r3,r4,r5,r6,rf⟩:=id F.facts7
          cases gb with
          | false =>
            have HD:=Lib.hid (HBx.out rfl);clear HBx HCg A F;simp only;go_wp2_with fail;refine bodyPost_ret (v:=.tuple #[.agg #[.int .i64 0,.int .i64 0,.int .i64 0,.int .i64 0,.int .i64 0,.int .i64 0,.int .i64 0],.bool false]) (by simp [results,Tryz.results49,go_sem,r,r0,r1,r2,r3,r4,r5,r6]) rfl ⟨by rw [HD.out];rfl,?_⟩
            exact (zaa0 hb qO _ _ _ _ _ _ _).alloc (zaa0 hb qO _ _ _ _ _ _ _).size _
          | true =>
            have HD:=Lib.hid (HCg.out _ rfl);clear HBx HCg;have it:=zad6 ⟨kd,v,⟨g1,g2,g3,g4,g5⟩⟩;simp only [Dd.val] at it;obtain ⟨L,hL⟩:=qM (deedB ⟨kd,v,⟨g1,g2,g3,g4,g5⟩⟩);rw [← hL] at it;simp only [← hL] at HD;clear hL;have hbY:=((((hb.setCell (p:=⟨Y,2,none⟩) (by show w.heap.size≤Y;exact hwY) (.int .i64 g1)).setCell (p:=⟨Y,3,none⟩) (by show w.heap.size≤Y;exact hwY) (.int .i64 g2)).setCell (p:=⟨Y,4,none⟩) (by show w.heap.size≤Y;exact hwY) (.int .i64 g3)).setCell (p:=⟨Y,5,none⟩) (by show w.heap.size≤Y;exact hwY) (.int .i64 g4)).setCell (p:=⟨Y,6,none⟩) (by show w.heap.size≤Y;exact hwY) (.int .i64 g5);go_wp2_with fail;replace F:=((((((F.setOther (p:=⟨Y,2,none⟩) hXY (.int .i64 g1)).setOther (p:=⟨Y,3,none⟩) hXY (.int .i64 g2)).setOther (p:=⟨Y,4,none⟩) hXY (.int .i64 g3)).setOther (p:=⟨Y,5,none⟩) hXY (.int .i64 g4)).setOther (p:=⟨Y,6,none⟩) hXY (.int .i64 g5)).alloc (.cells #[.int .i64 g1,.int .i64 g2,.int .i64 g3,.int .i64 g4,.int .i64 g5] 75));replace A:=((((((A.set 2 (.int .i64 g1)).set 3 (.int .i64 g2)).set 4 (.int .i64 g3)).set 5 (.int .i64 g4)).set 6 (.int .i64 g5)).alloc (.cells #[.int .i64 g1,.int .i64 g2,.int .i64 g3,.int .i64 g4,.int .i64 g5] 75));replace hb:=hbY.alloc hbY.size (.cells #[.int .i64 g1,.int .i64 g2,.int .i64 g3,.int .i64 g4,.int .i64 g5] 75);simp only [List.set_cons_succ,List.set_cons_zero] at A;clear y0 y1 y2 y3 y4 y5 y6 yf yl r r0 r1 r2 r3 r4 r5 r6 rf;clear hbY;refine (it _ (hw.below hb).pow).mono ?_;rintro e w9 ⟨rfl,b9⟩;replace F:=F.below b9;replace A:=A.below b9;replace hb:=hb.trans (b9.mono hb.size);clear b9 it;obtain ⟨yl,y0,y1,y2,y3,y4,y5,y6,yf⟩:=id A.facts7;obtain ⟨r,r0,r1,r2,r3,r4,r5,r6,rf⟩:=id F.facts7;clear A F;have hne:=zaca L s
            by_cases hLs:L=s
            · rw [if_pos hLs] at HD
              subst hLs;simp only [decide_true,Bool.not_true] at hne;go_wp2_with fail;refine bodyPost_ret (v:=.tuple #[.agg #[.int .i64 kd,.int .i64 v,.int .i64 g1,.int .i64 g2,.int .i64 g3,.int .i64 g4,.int .i64 g5],.bool true]) (by simp [results,Tryz.results49,go_sem,r0,r1,r2,r3,r4,r5,r6]) rfl ⟨by rw [HD.out],?_⟩
              exact zaa0 hb qO _ _ _ _ _ _ _
            · rw [if_neg hLs] at HD
              rw [decide_eq_false hLs,Bool.not_false] at hne
              have hne2:¬ L.toList=s.toList:=by rw [zaco];exact hLs
              have hne3:(L.toList == s.toList)=false:=by simpa using hne2
              clear hLs;go_wp2_with fail;refine bodyPost_ret (v:=.tuple #[.agg #[.int .i64 0,.int .i64 0,.int .i64 0,.int .i64 0,.int .i64 0,.int .i64 0,.int .i64 0],.bool false]) (by simp [results,Tryz.results49,go_sem,r0,r1,r2,r3,r4,r5,r6]) rfl ⟨by rw [HD.out];rfl,?_⟩
              exact zaa0 hb qO _ _ _ _ _ _ _
        · have HD:=Lib.hid (HCv.out noLeg (fun h=>absurd (by rw [HL.out];exact h) h2) (fun _=>rfl))
          clear HCv HB2 HT2;simp only [noLeg] at HD;have it:=zad6 ⟨kd,v,⟨0,0,0,0,0⟩⟩;simp only [Dd.val] at it;obtain ⟨L,hL⟩:=qM (deedB ⟨kd,v,⟨0,0,0,0,0⟩⟩);rw [← hL] at it;simp only [← hL] at HD;clear hL;obtain ⟨yl,y0,y1,y2,y3,y4,y5,y6,yf⟩:=id A.facts7;obtain ⟨r,r0,r1,r2,r3,r4,r5,r6,rf⟩:=id F.facts7;go_wp2_with fail;refine (i3 _).mono ?_;rintro e w7 ⟨rfl,b7⟩;replace F:=F.below b7;replace A:=A.below b7;replace hb:=hb.trans (b7.mono hb.size);clear y0 y1 y2 y3 y4 y5 y6 yf yl r r0 r1 r2 r3 r4 r5 r6 rf;clear b7 i3 m1;obtain ⟨yl,y0,y1,y2,y3,y4,y5,y6,yf⟩:=id A.facts7;obtain ⟨r,r0,r1,r2,r3,r4,r5,r6,rf⟩:=id F.facts7;go_wp2_with fail;replace F:=F.setOther (p:=⟨Y,1,none⟩) hXY (.int .i64 v);replace A:=A.set 1 (.int .i64 v);replace hb:=hb.setCell (p:=⟨Y,1,none⟩) (by show w.heap.size≤Y;exact hwY) (.int .i64 v);simp only [List.set_cons_succ,List.set_cons_zero] at A;clear y0 y1 y2 y3 y4 y5 y6 yf yl r r0 r1 r2 r3 r4 r5 r6 rf;refine (it _ (hw.below hb).pow).mono ?_;rintro e w9 ⟨rfl,b9⟩;replace F:=F.below b9;replace A:=A.below b9;replace hb:=hb.trans (b9.mono hb.size);clear b9 it;obtain ⟨yl,y0,y1,y2,y3,y4,y5,y6,yf⟩:=id A.facts7;obtain ⟨r,r0,r1,r2,r3,r4,r5,r6,rf⟩:=id F.facts7;clear A F;have hne:=zaca L s
          by_cases hLs:L=s
          · rw [if_pos hLs] at HD
            subst hLs;simp only [decide_true,Bool.not_true] at hne;go_wp2_with fail;refine bodyPost_ret (v:=.tuple #[.agg #[.int .i64 kd,.int .i64 v,.int .i64 0,.int .i64 0,.int .i64 0,.int .i64 0,.int .i64 0],.bool true]) (by simp [results,Tryz.results49,go_sem,r0,r1,r2,r3,r4,r5,r6]) rfl ⟨by rw [HD.out],?_⟩
            exact zaa0 hb qO _ _ _ _ _ _ _
          · rw [if_neg hLs] at HD
            rw [decide_eq_false hLs,Bool.not_false] at hne
            have hne2:¬ L.toList=s.toList:=by rw [zaco];exact hLs
            have hne3:(L.toList == s.toList)=false:=by simpa using hne2
            clear hLs;go_wp2_with fail;refine bodyPost_ret (v:=.tuple #[.agg #[.int .i64 0,.int .i64 0,.int .i64 0,.int .i64 0,.int .i64 0,.int .i64 0,.int .i64 0],.bool false]) (by simp [results,Tryz.results49,go_sem,r0,r1,r2,r3,r4,r5,r6]) rfl ⟨by rw [HD.out];rfl,?_⟩
            exact zaa0 hb qO _ _ _ _ _ _ _
    · have h2:¬ 2<N:=by omega
      have HD:=Lib.hid (HC.out 0 noLeg (fun h=>absurd (by rw [HL.out];exact h) h1) (fun _=>rfl) (fun h=>absurd (by rw [HL.out];exact h) h2) (fun _=>rfl))
      clear HC HB1 HB2 HT2;simp only [noLeg] at HD;have it:=zad6 ⟨kd,0,⟨0,0,0,0,0⟩⟩;simp only [Dd.val] at it;obtain ⟨L,hL⟩:=qM (deedB ⟨kd,0,⟨0,0,0,0,0⟩⟩);rw [← hL] at it;simp only [← hL] at HD;clear hL;obtain ⟨yl,y0,y1,y2,y3,y4,y5,y6,yf⟩:=id A.facts7;obtain ⟨r,r0,r1,r2,r3,r4,r5,r6,rf⟩:=id F.facts7;go_wp2_with fail;clear y0 y1 y2 y3 y4 y5 y6 yf yl r r0 r1 r2 r3 r4 r5 r6 rf;refine (it _ (hw.below hb).pow).mono ?_;rintro e w9 ⟨rfl,b9⟩;replace F:=F.below b9;replace A:=A.below b9;replace hb:=hb.trans (b9.mono hb.size);clear b9 it;obtain ⟨yl,y0,y1,y2,y3,y4,y5,y6,yf⟩:=id A.facts7;obtain ⟨r,r0,r1,r2,r3,r4,r5,r6,rf⟩:=id F.facts7;clear A F;have hne:=zaca L s
      by_cases hLs:L=s
      · rw [if_pos hLs] at HD
        subst hLs;simp only [decide_true,Bool.not_true] at hne;go_wp2_with fail;refine bodyPost_ret (v:=.tuple #[.agg #[.int .i64 kd,.int .i64 0,.int .i64 0,.int .i64 0,.int .i64 0,.int .i64 0,.int .i64 0],.bool true]) (by simp [results,Tryz.results49,go_sem,r0,r1,r2,r3,r4,r5,r6]) rfl ⟨by rw [HD.out],?_⟩
        exact zaa0 hb qO _ _ _ _ _ _ _
      · rw [if_neg hLs] at HD
        rw [decide_eq_false hLs,Bool.not_false] at hne
        have hne2:¬ L.toList=s.toList:=by rw [zaco];exact hLs
        have hne3:(L.toList == s.toList)=false:=by simpa using hne2
        clear hLs;go_wp2_with fail;refine bodyPost_ret (v:=.tuple #[.agg #[.int .i64 0,.int .i64 0,.int .i64 0,.int .i64 0,.int .i64 0,.int .i64 0,.int .i64 0],.bool false]) (by simp [results,Tryz.results49,go_sem,r0,r1,r2,r3,r4,r5,r6]) rfl ⟨by rw [HD.out];rfl,?_⟩
        exact zaa0 hb qO _ _ _ _ _ _ _
end Go.Proofs.YthfoloefkfadlaaGreatDoor
