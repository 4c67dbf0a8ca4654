/- Walks: spec.BookLine. -/
import Derived.Test.YthfoloefkfadlaaGreatDoorMB
import Derived.Test.YthfoloefkfadlaaGreatDoorKA
import Derived.Test.YthfoloefkfadlaaGreatDoorK9
import Derived.Test.YthfoloefkfadlaaGreatDoorT6
import Derived.Test.YthfoloefkfadlaaGreatDoorMA
set_option linter.unusedSimpArgs false
set_option linter.unusedVariables false
set_option maxHeartbeats 20000000
set_option maxRecDepth 100000
namespace Go.Proofs.YthfoloefkfadlaaGreatDoor
open Go Go.RowKit Go.Sort
def LnOut (p:Bk × ByteArray) (w:World) (e:Ending) (w':World):Prop:=∃ v1 v2 v3,e=.returned (.tuple #[.agg #[.int .i64 p.1.first.st,v1,v2,v3],.string p.2])∧BkOwn w' w.heap.size v1 v2 v3 p.1∧Below w.heap.size w w'
theorem zajy {b:Bk} {line:ByteArray} (h:bkOk b=true) {x:Dd} (hr:rdDdD line=(x,true)):lineF b line=((bkDo b x).1,doneB (bkDo b x).2):=by unfold lineF;rw [if_pos h,hr,if_pos rfl]
theorem zajz {b:Bk} {line:ByteArray} (h:bkOk b=true) {x:Dd} (hr:rdDdD line=(x,false)) (hl:line=undoT):lineF b line=((bkUndo b).1,doneB (bkUndo b).2):=by unfold lineF;rw [if_pos h,hr,if_neg qP,if_pos hl]
theorem zaj0 {b:Bk} {line:ByteArray} (h:bkOk b=true) {x:Dd} (hr:rdDdD line=(x,false)) (h1:line≠undoT) (hl:line=redoT):lineF b line=((bkRedo b).1,doneB (bkRedo b).2):=by unfold lineF;rw [if_pos h,hr,if_neg qP,if_neg h1,if_pos hl]
theorem zame {b:Bk} {line:ByteArray} (h:bkOk b=true) {x:Dd} (hr:rdDdD line=(x,false)) (h1:line≠undoT) (h2:line≠redoT):lineF b line=(b,askF (bkNow b) line):=by unfold lineF;rw [if_pos h,hr,if_neg qP,if_neg h1,if_neg h2]
theorem zagq {w:World} {X Y k:Nat} {u v0 v1 v2 v3:Value} (hne:X≠Y) (h:w.cell? ⟨X,0,none⟩=some v0∧w.cell? ⟨X,1,none⟩=some v1∧w.cell? ⟨X,2,none⟩=some v2∧w.cell? ⟨X,3,none⟩=some v3):(w.setCell ⟨Y,k,none⟩ u).cell? ⟨X,0,none⟩=some v0∧(w.setCell ⟨Y,k,none⟩ u).cell? ⟨X,1,none⟩=some v1∧(w.setCell ⟨Y,k,none⟩ u).cell? ⟨X,2,none⟩=some v2∧(w.setCell ⟨Y,k,none⟩ u).cell? ⟨X,3,none⟩=some v3:=by
 have e:∀ j,(w.setCell ⟨Y,k,none⟩ u).cell? ⟨X,j,none⟩=w.cell? ⟨X,j,none⟩:=fun j=>World.cell?_setCell_other _ _ _ _ (by intro h;injection h;omega)
 rw [e,e,e,e];exact h
theorem zadq {w:World} {X Y:Nat} {u0 u1 u2 u3 v0 v1 v2 v3:Value} (hne:X≠Y) (h:w.cell? ⟨X,0,none⟩=some v0∧w.cell? ⟨X,1,none⟩=some v1∧w.cell? ⟨X,2,none⟩=some v2∧w.cell? ⟨X,3,none⟩=some v3) :
 ((((w.setCell ⟨Y,0,none⟩ u0).setCell ⟨Y,1,none⟩ u1).setCell ⟨Y,2,none⟩ u2).setCell ⟨Y,3,none⟩ u3).cell? ⟨X,0,none⟩=some v0∧((((w.setCell ⟨Y,0,none⟩ u0).setCell ⟨Y,1,none⟩ u1).setCell ⟨Y,2,none⟩ u2).setCell ⟨Y,3,none⟩ u3).cell? ⟨X,1,none⟩=some v1∧((((w.setCell ⟨Y,0,none⟩ u0).setCell ⟨Y,1,none⟩ u1).setCell ⟨Y,2,none⟩ u2).setCell ⟨Y,3,none⟩ u3).cell? ⟨X,2,none⟩=some v2∧((((w.setCell ⟨Y,0,none⟩ u0).setCell ⟨Y,1,none⟩ u1).setCell ⟨Y,2,none⟩ u2).setCell ⟨Y,3,none⟩ u3).cell? ⟨X,3,none⟩=some v3 :=
 zagq hne (zagq hne (zagq hne (zagq hne h)))
theorem At.cells4 {w:World} {X:Nat} {v0 v1 v2 v3:Value} (h:At w X [v0,v1,v2,v3]):w.cell? ⟨X,0,none⟩=some v0∧w.cell? ⟨X,1,none⟩=some v1∧w.cell? ⟨X,2,none⟩=some v2∧w.cell? ⟨X,3,none⟩=some v3:=by
 obtain ⟨-,h0,h1,h2,h3,-⟩:=h.facts4
 exact ⟨h0,h1,h2,h3⟩
theorem zab6 {w w':World} {X:Nat} {v0 v1 v2 v3:Value} (c:Below w.heap.size w w') (h:w.cell? ⟨X,0,none⟩=some v0∧w.cell? ⟨X,1,none⟩=some v1∧w.cell? ⟨X,2,none⟩=some v2∧w.cell? ⟨X,3,none⟩=some v3):w'.cell? ⟨X,0,none⟩=some v0∧w'.cell? ⟨X,1,none⟩=some v1∧w'.cell? ⟨X,2,none⟩=some v2∧w'.cell? ⟨X,3,none⟩=some v3:=by
 have hl:X<w.heap.size:=World.block_lt_of_cell? w _ h.1
 exact ⟨(c.cell (p:=⟨X,0,none⟩) hl).trans h.1,(c.cell (p:=⟨X,1,none⟩) hl).trans h.2.1,(c.cell (p:=⟨X,2,none⟩) hl).trans h.2.2.1,(c.cell (p:=⟨X,3,none⟩) hl).trans h.2.2.2⟩
structure LnFin (w:World) (Y:Nat) (v0 v1 v2 v3:Value) (b:Bk) (w':World):Prop where
 r:At w' Y [v0,v1,v2,v3]
 o:BkOwn w' w.heap.size v1 v2 v3 b
 b:Below w.heap.size w w'
theorem LnFin.below {w w' w'':World} {Y:Nat} {v0 v1 v2 v3:Value} {b:Bk} (h:LnFin w Y v0 v1 v2 v3 b w') (c:Below w'.heap.size w' w''):LnFin w Y v0 v1 v2 v3 b w'':=⟨h.r.below c,h.o.below c,h.b.trans (c.mono h.b.size)⟩
theorem zabl {w wz:World} {X B:Nat} {u0 u1 u2 u3 v0 v1 v2 v3:Value} {b:Bk} (R:At wz X [u0,u1,u2,u3]) (o:BkOwn wz B v1 v2 v3 b) (hb:Below w.heap.size w wz) (hX:w.heap.size≤X) (hB:X<B) :
 LnFin w X v0 v1 v2 v3 b ((((wz.setCell ⟨X,0,none⟩ v0).setCell ⟨X,1,none⟩ v1).setCell ⟨X,2,none⟩ v2).setCell ⟨X,3,none⟩ v3):=by
 obtain ⟨h1,h2,h3⟩:=zaap (w:=w) (v0:=v0) hX hB qO R o hb
 exact ⟨h1,h2,h3⟩
theorem zani (a1 a2 a3:Option Addr) (c1 c2 c3:Nat) (st:Int) (l:List Lg) (d u:List Dd) (line:ByteArray) (w:World) (hl:l.length≤1048576) (hd:d.length≤1048576) (hu:u.length≤1048576) (hsz:line.size≤1048576) (hs:RdB w a1 a2 a3 ⟨⟨st,l⟩,d,u⟩) (hok:bkOk ⟨⟨st,l⟩,d,u⟩=false) :
 Calls Tryz.prog 21 #[.agg #[.int .i64 st,.slice a1 l.length c1,.slice a2 d.length c2,.slice a3 u.length c3],.string line] w (LnOut (lineF ⟨⟨st,l⟩,d,u⟩ line) w):=by
 have i1:=fun w h=>zaak a1 a2 a3 c1 c2 c3 st l d u w hl hd hu h
 rw [hok] at i1;rw [zamd hok];unfold LnOut;clear hok
 go_enter Tryz.func21,Tryz.ntmps21
 go_wp2_with fail;refine (i1 _ (hs.below qBl)).mono ?_;rintro e w1 ⟨rfl,b1⟩;obtain ⟨X,hX⟩:=qN (w.heap.size);have F1:At w1 X [.int .i64 st,.slice a1 l.length c1,.slice a2 d.length c2,.slice a3 u.length c3]:=((At.new _ #[.int .i64 st,.slice a1 l.length c1,.slice a2 d.length c2,.slice a3 u.length c3] 28 hX.symm rfl).alloc _).below b1;have R1:At w1 (X+1) [.int .i64 0,.slice none 0 0,.slice none 0 0,.slice none 0 0]:=(At.new _ #[.int .i64 0,.slice none 0 0,.slice none 0 0,.slice none 0 0] 28 (by simp [hX]) rfl).below b1;have hb1:Below w.heap.size w w1:=Below.trans qBl (b1.mono (by simp;omega));have hwX:w.heap.size≤X:=qO;rw [hX];clear b1 hX i1;obtain ⟨r,r0,r1,r2,r3,rf⟩:=id R1.facts4;go_wp2_with fail
 obtain ⟨AE,oE,bE⟩:=zaap (v0:=.int .i64 0) (v1:=.slice none 0 0) (v2:=.slice none 0 0) (v3:=.slice none 0 0) (b:=zeroBk) (X:=X+1) (B:=X+1+1) qO qO qO R1 ⟨KOwn.nil,KOwn.nil,KOwn.nil,(fun k h=>by cases h),(fun k h=>by cases h),(fun k h=>by cases h)⟩ hb1
 obtain ⟨f0,f1,f2,f3,f4,-⟩:=AE.facts4
 exact bodyPost_ret (v:=.tuple #[.agg #[.int .i64 0,.slice none 0 0,.slice none 0 0,.slice none 0 0],.string ⟨#[]⟩]) (by simp [results,Tryz.results21,go_sem,f1,f2,f3,f4]) rfl ⟨_,_,_,rfl,oE,bE⟩
theorem zaog (a1 a2 a3:Option Addr) (c1 c2 c3:Nat) (st:Int) (l:List Lg) (d u:List Dd) (line:ByteArray) (w:World) (hl:l.length≤1048576) (hd:d.length≤1048576) (hu:u.length≤1048576) (hsz:line.size≤1048576) (hs:RdB w a1 a2 a3 ⟨⟨st,l⟩,d,u⟩) (hok:bkOk ⟨⟨st,l⟩,d,u⟩=true) :
 Calls Tryz.prog 21 #[.agg #[.int .i64 st,.slice a1 l.length c1,.slice a2 d.length c2,.slice a3 u.length c3],.string line] w (LnOut (lineF ⟨⟨st,l⟩,d,u⟩ line) w):=by
 have i1:=fun w h=>zaak a1 a2 a3 c1 c2 c3 st l d u w hl hd hu h
 rw [hok] at i1;obtain ⟨⟨dd,ok⟩,hrd⟩:=qN (rdDdD line)
 have I2:=Lib.hid (fun w=>zan6 line w hsz)
 rw [hrd] at I2
 have I3:=Lib.hid (fun w h=>zabw a1 a2 a3 c1 c2 c3 st l d u w hl hd hu h)
 have I4:=Lib.hid (fun w h=>zai2 a1 a2 a3 c1 c2 c3 st l d u dd w hl hd hu h)
 have I5:=Lib.hid (fun w h=>zaha a1 a2 a3 c1 c2 c3 st l d u w hl hd hu h)
 have I6:=Lib.hid (fun w h=>zahb a1 a2 a3 c1 c2 c3 st l d u w hl hd hu h)
 have I7:=Lib.hid (fun w h=>zau2 a1 a2 a3 c1 c2 c3 st l d u line w hok hl hd hu hsz h)
 obtain ⟨LF,hLF⟩:=qN (lineF ⟨⟨st,l⟩,d,u⟩ line);rw [hLF];have HLF:=Lib.hid hLF;clear hLF;have HRD:=Lib.hid hrd;have HOK:=Lib.hid hok;clear hrd hok;obtain ⟨kd,ix,⟨x1,x2,x3,x4,x5⟩⟩:=dd
 go_enter Tryz.func21,Tryz.ntmps21
 go_wp2_with fail;refine (i1 _ (hs.below qBl)).mono ?_;rintro e w1 ⟨rfl,b1⟩;obtain ⟨X,hX⟩:=qN (w.heap.size);have F1:At w1 X [.int .i64 st,.slice a1 l.length c1,.slice a2 d.length c2,.slice a3 u.length c3]:=((At.new _ #[.int .i64 st,.slice a1 l.length c1,.slice a2 d.length c2,.slice a3 u.length c3] 28 hX.symm rfl).alloc _).below b1;have R1:At w1 (X+1) [.int .i64 0,.slice none 0 0,.slice none 0 0,.slice none 0 0]:=(At.new _ #[.int .i64 0,.slice none 0 0,.slice none 0 0,.slice none 0 0] 28 (by simp [hX]) rfl).below b1;have hb1:Below w.heap.size w w1:=Below.trans qBl (b1.mono (by simp;omega));have hwX:w.heap.size≤X:=qO;rw [hX];clear b1 hX i1;obtain ⟨y,y0,y1,y2,y3,-⟩:=id F1.facts4;have i2:=I2.out;go_wp2_with fail;refine (i2 _).mono ?_;rintro e w2 ⟨rfl,b2⟩;have F2:=F1.below b2;have R2:=R1.below b2;have hb2:=hb1.trans (b2.mono hb1.size);simp only;clear b2 F1 R1 hb1 y y0 y1 y2 y3 i2;go_upto_region 4 with fail;obtain ⟨Z,hZ⟩:=qN (w2.heap.size)
 have hXZ:X+1<Z:=by have:=R2.lt;omega
 have Z1:At (w2.alloc (.cells #[.int .i64 kd,.int .i64 ix,.int .i64 x1,.int .i64 x2,.int .i64 x3,.int .i64 x4,.int .i64 x5] 82)) Z [.int .i64 kd,.int .i64 ix,.int .i64 x1,.int .i64 x2,.int .i64 x3,.int .i64 x4,.int .i64 x5]:=At.new _ _ _ hZ.symm rfl;have F3:=F2.alloc (.cells #[.int .i64 kd,.int .i64 ix,.int .i64 x1,.int .i64 x2,.int .i64 x3,.int .i64 x4,.int .i64 x5] 82);have R3:=R2.alloc (.cells #[.int .i64 kd,.int .i64 ix,.int .i64 x1,.int .i64 x2,.int .i64 x3,.int .i64 x4,.int .i64 x5] 82);have hb3:=hb2.alloc hb2.size (.cells #[.int .i64 kd,.int .i64 ix,.int .i64 x1,.int .i64 x2,.int .i64 x3,.int .i64 x4,.int .i64 x5] 82)
 try rw [hZ]
 generalize w2.alloc (.cells #[.int .i64 kd,.int .i64 ix,.int .i64 x1,.int .i64 x2,.int .i64 x3,.int .i64 x4,.int .i64 x5] 82)=w3 at *;clear F2 R2 hb2 hZ;obtain ⟨y,y0,y1,y2,y3,-⟩:=id F3.facts4;have i3:=I3.out;unfold BkRet at i3;go_wp2_with fail;refine (i3 _ (hs.below hb3)).mono ?_;rintro e w4 ⟨v1,v2,v3,rfl,oB,b4⟩;obtain ⟨z1,k1,z2,k2,z3,k3,rfl,rfl,rfl⟩:=oB.forms;have F4:=F3.below b4;have R4:=R3.below b4;have Z4:=Z1.below b4;have hb4:=hb3.trans (b4.mono hb3.size);have hB3:X+1<w3.heap.size:=R3.lt;simp only at oB;clear b4 F3 R3 Z1 hb3 y y0 y1 y2 y3 i3;go_upto_region 5 with fail;obtain ⟨O,hO⟩:=qN (w4.heap.size)
 have hZO:Z<O:=by have:=Z4.lt;omega
 have hXO:X+1<O:=qO;have O1:At (w4.alloc (.cells #[.int .i64 st,.slice z1 l.length k1,.slice z2 d.length k2,.slice z3 u.length k3] 28)) O [.int .i64 st,.slice z1 l.length k1,.slice z2 d.length k2,.slice z3 u.length k3]:=At.new _ _ _ hO.symm rfl;have F5:=F4.alloc (.cells #[.int .i64 st,.slice z1 l.length k1,.slice z2 d.length k2,.slice z3 u.length k3] 28);have R5:=R4.alloc (.cells #[.int .i64 st,.slice z1 l.length k1,.slice z2 d.length k2,.slice z3 u.length k3] 28);have Z5:=Z4.alloc (.cells #[.int .i64 st,.slice z1 l.length k1,.slice z2 d.length k2,.slice z3 u.length k3] 28);have oB5:=oB.alloc (.cells #[.int .i64 st,.slice z1 l.length k1,.slice z2 d.length k2,.slice z3 u.length k3] 28);have hb5:=hb4.alloc hb4.size (.cells #[.int .i64 st,.slice z1 l.length k1,.slice z2 d.length k2,.slice z3 u.length k3] 28)
 try rw [hO]
 generalize w4.alloc (.cells #[.int .i64 st,.slice z1 l.length k1,.slice z2 d.length k2,.slice z3 u.length k3] 28)=w5 at *;clear F4 R4 Z4 oB hb4 hO;obtain ⟨y,y0,y1,y2,y3,-⟩:=id F5.facts4;obtain ⟨q,q0,q1,q2,q3,qf⟩:=id O1.facts4
 cases ok
 · by_cases h1:line=undoT
   · have HL:=Lib.hid (HLF.out.symm.trans (zajz HOK.out HRD.out h1))
     have g1:(line.toList == [117,110,100,111])=true:=by rw [zaax];exact decide_eq_true h1
     clear h1;have i5:=I5.out;obtain ⟨⟨⟨⟨nst,nl⟩,nd,nu⟩,pk⟩,hP⟩:=qN (bkUndo ⟨⟨st,l⟩,d,u⟩);rw [hP] at i5 HL;unfold BkOut at i5;clear hP
     focus
      simp only at i5;go_wp2_with fail;refine (i5 _ (hs.below hb5)).mono ?_;rintro e w6 ⟨u1,u2,u3,rfl,oN,b6⟩;obtain ⟨m1,j1,m2,j2,m3,j3,rfl,rfl,rfl⟩:=oN.forms;have R6:=R5.below b6;have O6:=O1.below b6;have hb6:=hb5.trans (b6.mono hb5.size);have hBO:O<w5.heap.size:=O1.lt;simp only at oN;clear b6 y y0 y1 y2 y3 q q0 q1 q2 q3 qf oB5 F5 R5 Z5 O1 hb5 i5;obtain ⟨q,q0,q1,q2,q3,qf⟩:=id O6.facts4;go_upto_region 13 with fail;have O7:=O6.sets4 (.int .i64 nst) (.slice m1 nl.length j1) (.slice m2 nd.length j2) (.slice m3 nu.length j3);have R7:=(((R6.setOther (p:=⟨O,0,none⟩) (by show X+1≠O;omega) (.int .i64 nst)).setOther (p:=⟨O,1,none⟩) (by show X+1≠O;omega) (.slice m1 nl.length j1)).setOther (p:=⟨O,2,none⟩) (by show X+1≠O;omega) (.slice m2 nd.length j2)).setOther (p:=⟨O,3,none⟩) (by show X+1≠O;omega) (.slice m3 nu.length j3);have o7:=(((oN.setCell (p:=⟨O,0,none⟩) hBO (.int .i64 nst)).setCell (p:=⟨O,1,none⟩) hBO (.slice m1 nl.length j1)).setCell (p:=⟨O,2,none⟩) hBO (.slice m2 nd.length j2)).setCell (p:=⟨O,3,none⟩) hBO (.slice m3 nu.length j3);have hb7:=(((hb6.setCell (p:=⟨O,0,none⟩) (by show w.heap.size≤O;omega) (.int .i64 nst)).setCell (p:=⟨O,1,none⟩) (by show w.heap.size≤O;omega) (.slice m1 nl.length j1)).setCell (p:=⟨O,2,none⟩) (by show w.heap.size≤O;omega) (.slice m2 nd.length j2)).setCell (p:=⟨O,3,none⟩) (by show w.heap.size≤O;omega) (.slice m3 nu.length j3);generalize (((w6.setCell ⟨O,0,none⟩ (.int .i64 nst)).setCell ⟨O,1,none⟩ (.slice m1 nl.length j1)).setCell ⟨O,2,none⟩ (.slice m2 nd.length j2)).setCell ⟨O,3,none⟩ (.slice m3 nu.length j3)=w7 at *;clear O6 R6 oN hb6 q q0 q1 q2 q3 qf;obtain ⟨q,q0,q1,q2,q3,qf⟩:=id O7.facts4;obtain ⟨r,r0,r1,r2,r3,rf⟩:=id R7.facts4;obtain ⟨E1,E2,E3⟩:=zaap (w:=w) (v0:=.int .i64 nst) qO qO qO R7 o7 hb7;have HA:=Lib.hid E1;have HE:=Lib.hid E2;have HB:=Lib.hid E3;clear E1 E2 E3 o7 hb7 O7 R7 hs I2 I3 I4 I5 I6 I7 HRD HOK HLF hl hd hu hsz hZO hBO hB3
      cases pk
      · go_wp2_with fail
        obtain ⟨f,f0,f1,f2,f3,-⟩:=id HA.out.facts4;refine bodyPost_ret (v:=.tuple #[.agg #[.int .i64 nst,.slice m1 nl.length j1,.slice m2 nd.length j2,.slice m3 nu.length j3],.string ⟨#[110,111]⟩]) (by simp [results,Tryz.results21,go_sem,f,f0,f1,f2,f3]) rfl ?_;rw [HL.out]
        exact ⟨_,_,_,rfl,HE.out,HB.out⟩
      · go_wp2_with fail
        obtain ⟨f,f0,f1,f2,f3,-⟩:=id HA.out.facts4;refine bodyPost_ret (v:=.tuple #[.agg #[.int .i64 nst,.slice m1 nl.length j1,.slice m2 nd.length j2,.slice m3 nu.length j3],.string ⟨#[111,107]⟩]) (by simp [results,Tryz.results21,go_sem,f,f0,f1,f2,f3]) rfl ?_;rw [HL.out]
        exact ⟨_,_,_,rfl,HE.out,HB.out⟩
   have g1:(line.toList == [117,110,100,111])=false:=by rw [zaax];exact decide_eq_false h1
   by_cases h2:line=redoT
   · have HL:=Lib.hid (HLF.out.symm.trans (zaj0 HOK.out HRD.out h1 h2))
     have g2:(line.toList == [114,101,100,111])=true:=by rw [zaax];exact decide_eq_true h2
     clear h1 h2;have i5:=I6.out;obtain ⟨⟨⟨⟨nst,nl⟩,nd,nu⟩,pk⟩,hP⟩:=qN (bkRedo ⟨⟨st,l⟩,d,u⟩);rw [hP] at i5 HL;unfold BkOut at i5;clear hP
     focus
      simp only at i5;go_wp2_with fail;refine (i5 _ (hs.below hb5)).mono ?_;rintro e w6 ⟨u1,u2,u3,rfl,oN,b6⟩;obtain ⟨m1,j1,m2,j2,m3,j3,rfl,rfl,rfl⟩:=oN.forms;have R6:=R5.below b6;have O6:=O1.below b6;have hb6:=hb5.trans (b6.mono hb5.size);have hBO:O<w5.heap.size:=O1.lt;simp only at oN;clear b6 y y0 y1 y2 y3 q q0 q1 q2 q3 qf oB5 F5 R5 Z5 O1 hb5 i5;obtain ⟨q,q0,q1,q2,q3,qf⟩:=id O6.facts4;go_upto_region 13 with fail;have O7:=O6.sets4 (.int .i64 nst) (.slice m1 nl.length j1) (.slice m2 nd.length j2) (.slice m3 nu.length j3);have R7:=(((R6.setOther (p:=⟨O,0,none⟩) (by show X+1≠O;omega) (.int .i64 nst)).setOther (p:=⟨O,1,none⟩) (by show X+1≠O;omega) (.slice m1 nl.length j1)).setOther (p:=⟨O,2,none⟩) (by show X+1≠O;omega) (.slice m2 nd.length j2)).setOther (p:=⟨O,3,none⟩) (by show X+1≠O;omega) (.slice m3 nu.length j3);have o7:=(((oN.setCell (p:=⟨O,0,none⟩) hBO (.int .i64 nst)).setCell (p:=⟨O,1,none⟩) hBO (.slice m1 nl.length j1)).setCell (p:=⟨O,2,none⟩) hBO (.slice m2 nd.length j2)).setCell (p:=⟨O,3,none⟩) hBO (.slice m3 nu.length j3);have hb7:=(((hb6.setCell (p:=⟨O,0,none⟩) (by show w.heap.size≤O;omega) (.int .i64 nst)).setCell (p:=⟨O,1,none⟩) (by show w.heap.size≤O;omega) (.slice m1 nl.length j1)).setCell (p:=⟨O,2,none⟩) (by show w.heap.size≤O;omega) (.slice m2 nd.length j2)).setCell (p:=⟨O,3,none⟩) (by show w.heap.size≤O;omega) (.slice m3 nu.length j3);generalize (((w6.setCell ⟨O,0,none⟩ (.int .i64 nst)).setCell ⟨O,1,none⟩ (.slice m1 nl.length j1)).setCell ⟨O,2,none⟩ (.slice m2 nd.length j2)).setCell ⟨O,3,none⟩ (.slice m3 nu.length j3)=w7 at *;clear O6 R6 oN hb6 q q0 q1 q2 q3 qf;obtain ⟨q,q0,q1,q2,q3,qf⟩:=id O7.facts4;obtain ⟨r,r0,r1,r2,r3,rf⟩:=id R7.facts4;obtain ⟨E1,E2,E3⟩:=zaap (w:=w) (v0:=.int .i64 nst) qO qO qO R7 o7 hb7;have HA:=Lib.hid E1;have HE:=Lib.hid E2;have HB:=Lib.hid E3;clear E1 E2 E3 o7 hb7 O7 R7 hs I2 I3 I4 I5 I6 I7 HRD HOK HLF hl hd hu hsz hZO hBO hB3
      cases pk
      · go_wp2_with fail
        obtain ⟨f,f0,f1,f2,f3,-⟩:=id HA.out.facts4;refine bodyPost_ret (v:=.tuple #[.agg #[.int .i64 nst,.slice m1 nl.length j1,.slice m2 nd.length j2,.slice m3 nu.length j3],.string ⟨#[110,111]⟩]) (by simp [results,Tryz.results21,go_sem,f,f0,f1,f2,f3]) rfl ?_;rw [HL.out]
        exact ⟨_,_,_,rfl,HE.out,HB.out⟩
      · go_wp2_with fail
        obtain ⟨f,f0,f1,f2,f3,-⟩:=id HA.out.facts4;refine bodyPost_ret (v:=.tuple #[.agg #[.int .i64 nst,.slice m1 nl.length j1,.slice m2 nd.length j2,.slice m3 nu.length j3],.string ⟨#[111,107]⟩]) (by simp [results,Tryz.results21,go_sem,f,f0,f1,f2,f3]) rfl ?_;rw [HL.out]
        exact ⟨_,_,_,rfl,HE.out,HB.out⟩
   have g2:(line.toList == [114,101,100,111])=false:=by rw [zaax];exact decide_eq_false h2
   have HL:=Lib.hid (HLF.out.symm.trans (zame HOK.out HRD.out h1 h2));clear h1 h2;have i7:=I7.out;obtain ⟨T,hT⟩:=qN (askF (bkNow ⟨⟨st,l⟩,d,u⟩) line);rw [hT] at i7 HL;clear hT
   focus
    go_upto_region 6 with fail
    have bd:Below w5.heap.size w5 w5.drew:=by exact qHb
    have R:=R5.below bd;have hb:=hb5.trans (bd.mono hb5.size);have oc:=oB5.below bd;have hXB:=hB3;have hX1:w.heap.size≤X+1:=qO;have hNX:X≠X+1:=qO;have hNO:O≠X+1:=qO;obtain ⟨r,r0,r1,r2,r3,rf⟩:=id R.facts4;have hS0:=And.intro ((F5.below bd).cells4) ((O1.below bd).cells4);clear y y0 y1 y2 y3 q q0 q1 q2 q3 qf F5 R5 Z5 hb5 oB5 O1 bd I2 I3 I4 I5 I6 I7 HRD HOK HLF hl hd hu hsz
    go_region_held3 (fun w'=>(w'.cell? ⟨X,0,none⟩=some (.int .i64 st)∧w'.cell? ⟨X,1,none⟩=some (.slice a1 l.length c1)∧w'.cell? ⟨X,2,none⟩=some (.slice a2 d.length c2)∧w'.cell? ⟨X,3,none⟩=some (.slice a3 u.length c3))∧(w'.cell? ⟨O,0,none⟩=some (.int .i64 st)∧w'.cell? ⟨O,1,none⟩=some (.slice z1 l.length k1)∧w'.cell? ⟨O,2,none⟩=some (.slice z2 d.length k2)∧w'.cell? ⟨O,3,none⟩=some (.slice z3 u.length k3))) (first|with_reducible assumption|with_reducible exact And.imp (zadq hNX) (zadq hNO) (by with_reducible assumption))
     ((go_at_call 60;refine (i7 _ (hs.below (by first|exact D.b|exact qHb))).mono ?_;rintro e wa ⟨rfl,cc⟩;have hS:=And.imp (zab6 cc) (zab6 cc) (by with_reducible assumption);(first|(with_reducible have D:=LnFin.below D cc)|((with_reducible have R:=R.below cc);(obtain ⟨r,r0,r1,r2,r3,rf⟩:=id R.facts4);(have hb:=hb.trans (cc.mono hb.size));(with_reducible have oc:=BkOwn.below oc cc))|(with_reducible have D:=LnFin.below (zabl (X:=X+1) (v0:=.int .i64 st) R oc hb hX1 hXB) cc));clear cc))
    all_goals
     go_wp2_with fail
     first
     | (have E:=D
        obtain ⟨f,f0,f1,f2,f3,-⟩:=id E.r.facts4;refine bodyPost_ret (v:=.tuple #[.agg #[.int .i64 st,.slice z1 l.length k1,.slice z2 d.length k2,.slice z3 u.length k3],.string T]) (by simp [results,Tryz.results21,go_sem,f,f0,f1,f2,f3]) rfl ?_;rw [HL.out]
        exact ⟨_,_,_,rfl,E.o,E.b⟩)
     | (have E:=zabl (X:=X+1) (v0:=.int .i64 st) R oc hb hX1 hXB
        obtain ⟨f,f0,f1,f2,f3,-⟩:=id E.r.facts4;refine bodyPost_ret (v:=.tuple #[.agg #[.int .i64 st,.slice z1 l.length k1,.slice z2 d.length k2,.slice z3 u.length k3],.string T]) (by simp [results,Tryz.results21,go_sem,f,f0,f1,f2,f3]) rfl ?_;rw [HL.out]
        exact ⟨_,_,_,rfl,E.o,E.b⟩)
 · have HL:=Lib.hid (HLF.out.symm.trans (zajy HOK.out HRD.out))
   have i5:=I4.out;simp only [Dd.val] at i5;obtain ⟨⟨⟨⟨nst,nl⟩,nd,nu⟩,pk⟩,hP⟩:=qN (bkDo ⟨⟨st,l⟩,d,u⟩ ⟨kd,ix,⟨x1,x2,x3,x4,x5⟩⟩);rw [hP] at i5 HL;unfold BkOut at i5;obtain ⟨oz,oz0,oz1,oz2,oz3,oz4,oz5,oz6,-⟩:=id Z5.facts7;clear hP
   focus
    simp only at i5;go_wp2_with fail;refine (i5 _ (hs.below hb5)).mono ?_;rintro e w6 ⟨u1,u2,u3,rfl,oN,b6⟩;obtain ⟨m1,j1,m2,j2,m3,j3,rfl,rfl,rfl⟩:=oN.forms;have R6:=R5.below b6;have O6:=O1.below b6;have hb6:=hb5.trans (b6.mono hb5.size);have hBO:O<w5.heap.size:=O1.lt;simp only at oN;clear b6 y y0 y1 y2 y3 q q0 q1 q2 q3 qf oB5 F5 R5 Z5 O1 hb5 i5;obtain ⟨q,q0,q1,q2,q3,qf⟩:=id O6.facts4;go_upto_region 13 with fail;have O7:=O6.sets4 (.int .i64 nst) (.slice m1 nl.length j1) (.slice m2 nd.length j2) (.slice m3 nu.length j3);have R7:=(((R6.setOther (p:=⟨O,0,none⟩) (by show X+1≠O;omega) (.int .i64 nst)).setOther (p:=⟨O,1,none⟩) (by show X+1≠O;omega) (.slice m1 nl.length j1)).setOther (p:=⟨O,2,none⟩) (by show X+1≠O;omega) (.slice m2 nd.length j2)).setOther (p:=⟨O,3,none⟩) (by show X+1≠O;omega) (.slice m3 nu.length j3);have o7:=(((oN.setCell (p:=⟨O,0,none⟩) hBO (.int .i64 nst)).setCell (p:=⟨O,1,none⟩) hBO (.slice m1 nl.length j1)).setCell (p:=⟨O,2,none⟩) hBO (.slice m2 nd.length j2)).setCell (p:=⟨O,3,none⟩) hBO (.slice m3 nu.length j3);have hb7:=(((hb6.setCell (p:=⟨O,0,none⟩) (by show w.heap.size≤O;omega) (.int .i64 nst)).setCell (p:=⟨O,1,none⟩) (by show w.heap.size≤O;omega) (.slice m1 nl.length j1)).setCell (p:=⟨O,2,none⟩) (by show w.heap.size≤O;omega) (.slice m2 nd.length j2)).setCell (p:=⟨O,3,none⟩) (by show w.heap.size≤O;omega) (.slice m3 nu.length j3);generalize (((w6.setCell ⟨O,0,none⟩ (.int .i64 nst)).setCell ⟨O,1,none⟩ (.slice m1 nl.length j1)).setCell ⟨O,2,none⟩ (.slice m2 nd.length j2)).setCell ⟨O,3,none⟩ (.slice m3 nu.length j3)=w7 at *;clear O6 R6 oN hb6 q q0 q1 q2 q3 qf;obtain ⟨q,q0,q1,q2,q3,qf⟩:=id O7.facts4;obtain ⟨r,r0,r1,r2,r3,rf⟩:=id R7.facts4;obtain ⟨E1,E2,E3⟩:=zaap (w:=w) (v0:=.int .i64 nst) qO qO qO R7 o7 hb7;have HA:=Lib.hid E1;have HE:=Lib.hid E2;have HB:=Lib.hid E3;clear E1 E2 E3 o7 hb7 O7 R7 hs I2 I3 I4 I5 I6 I7 HRD HOK HLF hl hd hu hsz hZO hBO hB3
    cases pk
    · go_wp2_with fail
      obtain ⟨f,f0,f1,f2,f3,-⟩:=id HA.out.facts4;refine bodyPost_ret (v:=.tuple #[.agg #[.int .i64 nst,.slice m1 nl.length j1,.slice m2 nd.length j2,.slice m3 nu.length j3],.string ⟨#[110,111]⟩]) (by simp [results,Tryz.results21,go_sem,f,f0,f1,f2,f3]) rfl ?_;rw [HL.out]
      exact ⟨_,_,_,rfl,HE.out,HB.out⟩
    · go_wp2_with fail
      obtain ⟨f,f0,f1,f2,f3,-⟩:=id HA.out.facts4;refine bodyPost_ret (v:=.tuple #[.agg #[.int .i64 nst,.slice m1 nl.length j1,.slice m2 nd.length j2,.slice m3 nu.length j3],.string ⟨#[111,107]⟩]) (by simp [results,Tryz.results21,go_sem,f,f0,f1,f2,f3]) rfl ?_;rw [HL.out]
      exact ⟨_,_,_,rfl,HE.out,HB.out⟩
theorem zanj (a1 a2 a3:Option Addr) (c1 c2 c3:Nat) (st:Int) (l:List Lg) (d u:List Dd) (line:ByteArray) (w:World) (hl:l.length≤1048576) (hd:d.length≤1048576) (hu:u.length≤1048576) (hsz:line.size≤1048576) (hs:RdB w a1 a2 a3 ⟨⟨st,l⟩,d,u⟩) :
 Calls Tryz.prog 21 #[.agg #[.int .i64 st,.slice a1 l.length c1,.slice a2 d.length c2,.slice a3 u.length c3],.string line] w (LnOut (lineF ⟨⟨st,l⟩,d,u⟩ line) w):=by
 cases hok:bkOk ⟨⟨st,l⟩,d,u⟩
 · exact zani a1 a2 a3 c1 c2 c3 st l d u line w hl hd hu hsz hs hok
 · exact zaog a1 a2 a3 c1 c2 c3 st l d u line w hl hd hu hsz hs hok
set_option maxHeartbeats 20000000
theorem zaob (b:Bool) (w:World):Calls Tryz.prog 64 #[.bool b] w fun e w'=>e=.returned (.string (doneB b))∧w'=w:=by
 cases b
 · go_enter Tryz.func64,Tryz.ntmps64
   go_wp2_with fail;go_ret
   exact ⟨rfl,rfl⟩
 · go_enter Tryz.func64,Tryz.ntmps64
   go_wp2_with fail;go_ret
   exact ⟨rfl,rfl⟩
theorem zad8 (b:Bool) (w:World):Calls Tryz.prog 64 #[.bool b] w fun e w'=>e=.returned (.string (doneB b))∧Below w.heap.size w w' :=
 (zaob b w).mono fun e w' h=>⟨h.1,h.2▸Below.refl _ _⟩
theorem zaoc (a1 a2 a3:Option Addr) (c1 c2 c3:Nat) (st:Int) (l:List Lg) (d u:List Dd) (line:ByteArray) (w:World) (hl:l.length≤1048576) (hd:d.length≤1048576) (hu:u.length≤1048576) (hsz:line.size≤1048576) (hs:RdB w a1 a2 a3 ⟨⟨st,l⟩,d,u⟩) (hw:Lby w) (hok:bkOk ⟨⟨st,l⟩,d,u⟩=false) :
 Calls Tryz.prog 23 #[.agg #[.int .i64 st,.slice a1 l.length c1,.slice a2 d.length c2,.slice a3 u.length c3],.string line] w (LnOut (lineF ⟨⟨st,l⟩,d,u⟩ line) w):=by
 have i1:=fun w h=>zaan a1 a2 a3 c1 c2 c3 st l d u w hl hd hu h
 rw [hok] at i1;rw [zamd hok];unfold LnOut;clear hok
 go_enter Tryz.func23,Tryz.ntmps23
 go_wp2_with fail;refine (i1 _ (hs.below qBl)).mono ?_;rintro e w1 ⟨rfl,b1⟩;obtain ⟨X,hX⟩:=qN (w.heap.size);have F1:At w1 X [.int .i64 st,.slice a1 l.length c1,.slice a2 d.length c2,.slice a3 u.length c3]:=((At.new _ #[.int .i64 st,.slice a1 l.length c1,.slice a2 d.length c2,.slice a3 u.length c3] 28 hX.symm rfl).alloc _).below b1;have R1:At w1 (X+1) [.int .i64 0,.slice none 0 0,.slice none 0 0,.slice none 0 0]:=(At.new _ #[.int .i64 0,.slice none 0 0,.slice none 0 0,.slice none 0 0] 28 (by simp [hX]) rfl).below b1;have hb1:Below w.heap.size w w1:=Below.trans qBl (b1.mono (by simp;omega));have hwX:w.heap.size≤X:=qO;rw [hX];clear b1 hX i1;obtain ⟨r,r0,r1,r2,r3,rf⟩:=id R1.facts4;go_wp2_with fail
 obtain ⟨AE,oE,bE⟩:=zaap (v0:=.int .i64 0) (v1:=.slice none 0 0) (v2:=.slice none 0 0) (v3:=.slice none 0 0) (b:=zeroBk) (X:=X+1) (B:=X+1+1) qO qO qO R1 ⟨KOwn.nil,KOwn.nil,KOwn.nil,(fun k h=>by cases h),(fun k h=>by cases h),(fun k h=>by cases h)⟩ hb1
 obtain ⟨f0,f1,f2,f3,f4,-⟩:=AE.facts4
 exact bodyPost_ret (v:=.tuple #[.agg #[.int .i64 0,.slice none 0 0,.slice none 0 0,.slice none 0 0],.string ⟨#[]⟩]) (by simp [results,Tryz.results23,go_sem,f1,f2,f3,f4]) rfl ⟨_,_,_,rfl,oE,bE⟩
theorem zaqr (a1 a2 a3:Option Addr) (c1 c2 c3:Nat) (st:Int) (l:List Lg) (d u:List Dd) (line:ByteArray) (w:World) (hl:l.length≤1048576) (hd:d.length≤1048576) (hu:u.length≤1048576) (hsz:line.size≤1048576) (hs:RdB w a1 a2 a3 ⟨⟨st,l⟩,d,u⟩) (hw:Lby w) (hok:bkOk ⟨⟨st,l⟩,d,u⟩=true) :
 Calls Tryz.prog 23 #[.agg #[.int .i64 st,.slice a1 l.length c1,.slice a2 d.length c2,.slice a3 u.length c3],.string line] w (LnOut (lineF ⟨⟨st,l⟩,d,u⟩ line) w):=by
 have i1:=fun w h=>zaan a1 a2 a3 c1 c2 c3 st l d u w hl hd hu h
 rw [hok] at i1;obtain ⟨⟨dd,ok⟩,hrd⟩:=qN (rdDdD line)
 have I2:=Lib.hid (fun w hw=>zah6 line w hsz hw)
 rw [hrd] at I2
 have I3:=Lib.hid (fun w h=>zab0 a1 a2 a3 c1 c2 c3 st l d u w hl hd hu h)
 have I4:=Lib.hid (fun w h=>zas9 a1 a2 a3 c1 c2 c3 st l d u dd w hl hd hu h)
 have I5:=Lib.hid (fun w h=>zahy a1 a2 a3 c1 c2 c3 st l d u w hl hd hu h)
 have I6:=Lib.hid (fun w h=>zapt a1 a2 a3 c1 c2 c3 st l d u w hl hd hu h)
 have I7:=Lib.hid (fun w h=>zadg a1 a2 a3 c1 c2 c3 st l d u w hl hd hu h)
 have hnv:=zaf9 hok;obtain ⟨⟨nst0,nl0⟩,hNW⟩:=qN (bkNow ⟨⟨st,l⟩,d,u⟩);rw [hNW] at hnv I7
 have I8:=Lib.hid (fun a c w hs hw=>zajp a c nst0 nl0 line w hnv hs hsz hw)
 obtain ⟨LF,hLF⟩:=qN (lineF ⟨⟨st,l⟩,d,u⟩ line);rw [hLF];have HLF:=Lib.hid hLF;clear hLF;have HRD:=Lib.hid hrd;have HOK:=Lib.hid hok;have HNW:=Lib.hid hNW;clear hrd hok hNW hnv;obtain ⟨kd,ix,⟨x1,x2,x3,x4,x5⟩⟩:=dd
 go_enter Tryz.func23,Tryz.ntmps23
 go_wp2_with fail;refine (i1 _ (hs.below qBl)).mono ?_;rintro e w1 ⟨rfl,b1⟩;obtain ⟨X,hX⟩:=qN (w.heap.size);have F1:At w1 X [.int .i64 st,.slice a1 l.length c1,.slice a2 d.length c2,.slice a3 u.length c3]:=((At.new _ #[.int .i64 st,.slice a1 l.length c1,.slice a2 d.length c2,.slice a3 u.length c3] 28 hX.symm rfl).alloc _).below b1;have R1:At w1 (X+1) [.int .i64 0,.slice none 0 0,.slice none 0 0,.slice none 0 0]:=(At.new _ #[.int .i64 0,.slice none 0 0,.slice none 0 0,.slice none 0 0] 28 (by simp [hX]) rfl).below b1;have hb1:Below w.heap.size w w1:=Below.trans qBl (b1.mono (by simp;omega));have hwX:w.heap.size≤X:=qO;rw [hX];clear b1 hX i1;obtain ⟨y,y0,y1,y2,y3,-⟩:=id F1.facts4;have i2:=I2.out;go_wp2_with fail;refine (i2 _ (hw.below hb1)).mono ?_;rintro e w2 ⟨rfl,b2⟩;have F2:=F1.below b2;have R2:=R1.below b2;have hb2:=hb1.trans (b2.mono hb1.size);simp only;clear b2 F1 R1 hb1 y y0 y1 y2 y3 i2;go_upto_region 4 with fail;obtain ⟨Z,hZ⟩:=qN (w2.heap.size)
 have hXZ:X+1<Z:=by have:=R2.lt;omega
 have Z1:At (w2.alloc (.cells #[.int .i64 kd,.int .i64 ix,.int .i64 x1,.int .i64 x2,.int .i64 x3,.int .i64 x4,.int .i64 x5] 82)) Z [.int .i64 kd,.int .i64 ix,.int .i64 x1,.int .i64 x2,.int .i64 x3,.int .i64 x4,.int .i64 x5]:=At.new _ _ _ hZ.symm rfl;have F3:=F2.alloc (.cells #[.int .i64 kd,.int .i64 ix,.int .i64 x1,.int .i64 x2,.int .i64 x3,.int .i64 x4,.int .i64 x5] 82);have R3:=R2.alloc (.cells #[.int .i64 kd,.int .i64 ix,.int .i64 x1,.int .i64 x2,.int .i64 x3,.int .i64 x4,.int .i64 x5] 82);have hb3:=hb2.alloc hb2.size (.cells #[.int .i64 kd,.int .i64 ix,.int .i64 x1,.int .i64 x2,.int .i64 x3,.int .i64 x4,.int .i64 x5] 82)
 try rw [hZ]
 generalize w2.alloc (.cells #[.int .i64 kd,.int .i64 ix,.int .i64 x1,.int .i64 x2,.int .i64 x3,.int .i64 x4,.int .i64 x5] 82)=w3 at *;clear F2 R2 hb2 hZ;obtain ⟨y,y0,y1,y2,y3,-⟩:=id F3.facts4
 cases ok
 · by_cases h1:line=undoT
   · have HL:=Lib.hid (HLF.out.symm.trans (zajz HOK.out HRD.out h1))
     have g1:(line.toList == [117,110,100,111])=true:=by rw [zaax];exact decide_eq_true h1
     clear h1;have i5:=I5.out;obtain ⟨⟨⟨⟨nst,nl⟩,nd,nu⟩,pk⟩,hP⟩:=qN (bkUndo ⟨⟨st,l⟩,d,u⟩);rw [hP] at i5 HL;unfold BkOut at i5;clear hP
     focus
      simp only at i5;go_wp2_with fail;refine (i5 _ (hs.below hb3)).mono ?_;rintro e w6 ⟨u1,u2,u3,rfl,oN,b6⟩;obtain ⟨m1,j1,m2,j2,m3,j3,rfl,rfl,rfl⟩:=oN.forms;have R6:=R3.below b6;have hb6:=hb3.trans (b6.mono hb3.size);have hBX:X+1<w3.heap.size:=R3.lt;have hBw:w.heap.size≤w3.heap.size:=hb3.size;simp only at oN;clear b6 F3 R3 Z1 hb3 i5 y y0 y1 y2 y3 hs hl hd hu hsz I2 I3 I4 I5 I6 I7 I8 HRD HOK HLF hw;go_upto_region 10 with fail;obtain ⟨O,hO⟩:=qN (w6.heap.size)
      have hXO:X+1<O:=by have:=R6.lt;omega
      have hNX:O≠X+1:=qO;have O1:At (w6.alloc (.cells #[.int .i64 nst,.slice m1 nl.length j1,.slice m2 nd.length j2,.slice m3 nu.length j3] 28)) O [.int .i64 nst,.slice m1 nl.length j1,.slice m2 nd.length j2,.slice m3 nu.length j3]:=At.new _ _ _ hO.symm rfl;have R7:=R6.alloc (.cells #[.int .i64 nst,.slice m1 nl.length j1,.slice m2 nd.length j2,.slice m3 nu.length j3] 28);have oN7:=oN.alloc (.cells #[.int .i64 nst,.slice m1 nl.length j1,.slice m2 nd.length j2,.slice m3 nu.length j3] 28);have hb7:=hb6.alloc hb6.size (.cells #[.int .i64 nst,.slice m1 nl.length j1,.slice m2 nd.length j2,.slice m3 nu.length j3] 28)
      try rw [hO]
      generalize w6.alloc (.cells #[.int .i64 nst,.slice m1 nl.length j1,.slice m2 nd.length j2,.slice m3 nu.length j3] 28)=w7 at *;clear R6 oN hb6 hO
      have bd:Below w7.heap.size w7 w7.drew:=by exact qHb
      have R:=R7.below bd;have hb:=hb7.trans (bd.mono hb7.size);have oc:=oN7.below bd;have hX1:w.heap.size≤X+1:=qO;obtain ⟨r,r0,r1,r2,r3,rf⟩:=id R.facts4;have hS0:=(O1.below bd).cells4;clear R7 oN7 hb7 O1 bd
      go_region_held3 (fun w'=>w'.cell? ⟨O,0,none⟩=some (.int .i64 nst)∧w'.cell? ⟨O,1,none⟩=some (.slice m1 nl.length j1)∧w'.cell? ⟨O,2,none⟩=some (.slice m2 nd.length j2)∧w'.cell? ⟨O,3,none⟩=some (.slice m3 nu.length j3)) (first|with_reducible assumption|with_reducible exact zadq hNX (by with_reducible assumption)) ((go_at_call 64;refine (zad8 pk _).mono ?_;rintro e wa ⟨rfl,cc⟩;have hS:=zab6 cc (by with_reducible assumption);(with_reducible have R:=R.below cc);(obtain ⟨r,r0,r1,r2,r3,rf⟩:=id R.facts4);(have hb:=hb.trans (cc.mono hb.size));(with_reducible have oc:=BkOwn.below oc cc);clear cc))
      all_goals
       go_wp2_with fail;have E:=zabl (X:=X+1) (v0:=.int .i64 nst) R oc hb hX1 hBX;obtain ⟨f,f0,f1,f2,f3,-⟩:=id E.r.facts4;refine bodyPost_ret (v:=.tuple #[.agg #[.int .i64 nst,.slice m1 nl.length j1,.slice m2 nd.length j2,.slice m3 nu.length j3],.string (doneB pk)]) (by simp [results,Tryz.results23,go_sem,f,f0,f1,f2,f3]) rfl ?_;rw [HL.out]
       exact ⟨_,_,_,rfl,E.o,E.b⟩
   have g1:(line.toList == [117,110,100,111])=false:=by rw [zaax];exact decide_eq_false h1
   by_cases h2:line=redoT
   · have HL:=Lib.hid (HLF.out.symm.trans (zaj0 HOK.out HRD.out h1 h2))
     have g2:(line.toList == [114,101,100,111])=true:=by rw [zaax];exact decide_eq_true h2
     clear h1 h2;have i5:=I6.out;obtain ⟨⟨⟨⟨nst,nl⟩,nd,nu⟩,pk⟩,hP⟩:=qN (bkRedo ⟨⟨st,l⟩,d,u⟩);rw [hP] at i5 HL;unfold BkOut at i5;clear hP
     focus
      simp only at i5;go_wp2_with fail;refine (i5 _ (hs.below hb3)).mono ?_;rintro e w6 ⟨u1,u2,u3,rfl,oN,b6⟩;obtain ⟨m1,j1,m2,j2,m3,j3,rfl,rfl,rfl⟩:=oN.forms;have R6:=R3.below b6;have hb6:=hb3.trans (b6.mono hb3.size);have hBX:X+1<w3.heap.size:=R3.lt;have hBw:w.heap.size≤w3.heap.size:=hb3.size;simp only at oN;clear b6 F3 R3 Z1 hb3 i5 y y0 y1 y2 y3 hs hl hd hu hsz I2 I3 I4 I5 I6 I7 I8 HRD HOK HLF hw;go_upto_region 13 with fail;obtain ⟨O,hO⟩:=qN (w6.heap.size)
      have hXO:X+1<O:=by have:=R6.lt;omega
      have hNX:O≠X+1:=qO;have O1:At (w6.alloc (.cells #[.int .i64 nst,.slice m1 nl.length j1,.slice m2 nd.length j2,.slice m3 nu.length j3] 28)) O [.int .i64 nst,.slice m1 nl.length j1,.slice m2 nd.length j2,.slice m3 nu.length j3]:=At.new _ _ _ hO.symm rfl;have R7:=R6.alloc (.cells #[.int .i64 nst,.slice m1 nl.length j1,.slice m2 nd.length j2,.slice m3 nu.length j3] 28);have oN7:=oN.alloc (.cells #[.int .i64 nst,.slice m1 nl.length j1,.slice m2 nd.length j2,.slice m3 nu.length j3] 28);have hb7:=hb6.alloc hb6.size (.cells #[.int .i64 nst,.slice m1 nl.length j1,.slice m2 nd.length j2,.slice m3 nu.length j3] 28)
      try rw [hO]
      generalize w6.alloc (.cells #[.int .i64 nst,.slice m1 nl.length j1,.slice m2 nd.length j2,.slice m3 nu.length j3] 28)=w7 at *;clear R6 oN hb6 hO
      have bd:Below w7.heap.size w7 w7.drew:=by exact qHb
      have R:=R7.below bd;have hb:=hb7.trans (bd.mono hb7.size);have oc:=oN7.below bd;have hX1:w.heap.size≤X+1:=qO;obtain ⟨r,r0,r1,r2,r3,rf⟩:=id R.facts4;have hS0:=(O1.below bd).cells4;clear R7 oN7 hb7 O1 bd
      go_region_held3 (fun w'=>w'.cell? ⟨O,0,none⟩=some (.int .i64 nst)∧w'.cell? ⟨O,1,none⟩=some (.slice m1 nl.length j1)∧w'.cell? ⟨O,2,none⟩=some (.slice m2 nd.length j2)∧w'.cell? ⟨O,3,none⟩=some (.slice m3 nu.length j3)) (first|with_reducible assumption|with_reducible exact zadq hNX (by with_reducible assumption)) ((go_at_call 64;refine (zad8 pk _).mono ?_;rintro e wa ⟨rfl,cc⟩;have hS:=zab6 cc (by with_reducible assumption);(with_reducible have R:=R.below cc);(obtain ⟨r,r0,r1,r2,r3,rf⟩:=id R.facts4);(have hb:=hb.trans (cc.mono hb.size));(with_reducible have oc:=BkOwn.below oc cc);clear cc))
      all_goals
       go_wp2_with fail;have E:=zabl (X:=X+1) (v0:=.int .i64 nst) R oc hb hX1 hBX;obtain ⟨f,f0,f1,f2,f3,-⟩:=id E.r.facts4;refine bodyPost_ret (v:=.tuple #[.agg #[.int .i64 nst,.slice m1 nl.length j1,.slice m2 nd.length j2,.slice m3 nu.length j3],.string (doneB pk)]) (by simp [results,Tryz.results23,go_sem,f,f0,f1,f2,f3]) rfl ?_;rw [HL.out]
       exact ⟨_,_,_,rfl,E.o,E.b⟩
   have g2:(line.toList == [114,101,100,111])=false:=by rw [zaax];exact decide_eq_false h2
   have HL:=Lib.hid (HLF.out.symm.trans (zame HOK.out HRD.out h1 h2));clear h1 h2;obtain ⟨T,hT⟩:=qN (askF (bkNow ⟨⟨st,l⟩,d,u⟩) line);have hT2:=hT;rw [HNW.out] at hT2;rw [hT] at HL;rw [hT2] at I8;clear hT hT2
   focus
    go_upto_region 14 with fail;have hF:=F3.below (show Below w3.heap.size w3 w3.drew by exact qHb);have R:=R3.below (show Below w3.heap.size w3 w3.drew by exact qHb);have hb:=hb3.trans (Below.mono (show Below w3.heap.size w3 w3.drew by exact qHb) hb3.size);have hX1:w.heap.size≤X+1:=qO;have hNX:X≠X+1:=qO;obtain ⟨r,r0,r1,r2,r3,rf⟩:=id R.facts4;have hS0:=hF.cells4;clear y y0 y1 y2 y3 hF F3 R3 Z1 hb3
    go_region_held3 (fun w'=>w'.cell? ⟨X,0,none⟩=some (.int .i64 st)∧w'.cell? ⟨X,1,none⟩=some (.slice a1 l.length c1)∧w'.cell? ⟨X,2,none⟩=some (.slice a2 d.length c2)∧w'.cell? ⟨X,3,none⟩=some (.slice a3 u.length c3)) (first|with_reducible assumption|with_reducible exact zadq hNX (by with_reducible assumption))
     (first
     | (go_at_call 39;refine (I3.out _ (hs.below (by first|exact D.b|exact qHb))).mono ?_;rintro e wc ⟨v1,v2,v3,rfl,oc,cc⟩;obtain ⟨p1,k1,p2,k2,p3,k3,rfl,rfl,rfl⟩:=oc.forms;have hS:=zab6 cc (by with_reducible assumption);have hXc:=R.lt;(with_reducible have R:=R.below cc);obtain ⟨r,r0,r1,r2,r3,rf⟩:=id R.facts4;have hb:=hb.trans (cc.mono hb.size);(first|(with_reducible have oz:=KOwn.below oz cc)|skip);clear cc)
     | (go_at_call 19;refine (I7.out _ (hs.below (by first|exact D.b|exact qHb))).mono ?_;rintro e wn ⟨vz,rfl,oz,cc⟩;obtain ⟨pz,kz,rfl⟩:=oz.sl;have hS:=zab6 cc (by with_reducible assumption);(first|(with_reducible have D:=LnFin.below D cc)|((with_reducible have R:=R.below cc);(obtain ⟨r,r0,r1,r2,r3,rf⟩:=id R.facts4);(have hb:=hb.trans (cc.mono hb.size));(first|(with_reducible have oc:=BkOwn.below oc cc)|skip);(first|(with_reducible have oz:=KOwn.below oz cc)|skip))|(with_reducible have D:=LnFin.below (zabl (X:=X+1) (v0:=.int .i64 st) R oc hb hX1 hXc) cc));clear cc)
     | (go_at_call 66;refine (I8.out _ _ _ (by first|exact oz.kr|exact ((((oz.setCell (p:=⟨X+1,0,none⟩) (by show X+1<_;omega) _).setCell (p:=⟨X+1,1,none⟩) (by show X+1<_;omega) _).setCell (p:=⟨X+1,2,none⟩) (by show X+1<_;omega) _).setCell (p:=⟨X+1,3,none⟩) (by show X+1<_;omega) _).kr) (hw.below (by first|exact D.b|exact qHb))).mono ?_;rintro e wa ⟨rfl,cc⟩;have hS:=zab6 cc (by with_reducible assumption);(first|(with_reducible have D:=LnFin.below D cc)|((with_reducible have R:=R.below cc);(obtain ⟨r,r0,r1,r2,r3,rf⟩:=id R.facts4);(have hb:=hb.trans (cc.mono hb.size));(first|(with_reducible have oc:=BkOwn.below oc cc)|skip);(first|(with_reducible have oz:=KOwn.below oz cc)|skip))|(with_reducible have D:=LnFin.below (zabl (X:=X+1) (v0:=.int .i64 st) R oc hb hX1 hXc) cc));clear cc))
    all_goals
     go_wp2_with fail
     first
     | (have E:=D
        obtain ⟨f,f0,f1,f2,f3,-⟩:=id E.r.facts4;refine bodyPost_ret (v:=.tuple #[.agg #[.int .i64 st,.slice p1 l.length k1,.slice p2 d.length k2,.slice p3 u.length k3],.string T]) (by simp [results,Tryz.results23,go_sem,f,f0,f1,f2,f3]) rfl ?_;rw [HL.out]
        exact ⟨_,_,_,rfl,E.o,E.b⟩)
     | (have E:=zabl (X:=X+1) (v0:=.int .i64 st) R oc hb hX1 hXc
        obtain ⟨f,f0,f1,f2,f3,-⟩:=id E.r.facts4;refine bodyPost_ret (v:=.tuple #[.agg #[.int .i64 st,.slice p1 l.length k1,.slice p2 d.length k2,.slice p3 u.length k3],.string T]) (by simp [results,Tryz.results23,go_sem,f,f0,f1,f2,f3]) rfl ?_;rw [HL.out]
        exact ⟨_,_,_,rfl,E.o,E.b⟩)
 · have HL:=Lib.hid (HLF.out.symm.trans (zajy HOK.out HRD.out))
   have i5:=I4.out;simp only [Dd.val] at i5;obtain ⟨⟨⟨⟨nst,nl⟩,nd,nu⟩,pk⟩,hP⟩:=qN (bkDo ⟨⟨st,l⟩,d,u⟩ ⟨kd,ix,⟨x1,x2,x3,x4,x5⟩⟩);rw [hP] at i5 HL;unfold BkOut at i5;obtain ⟨oz,oz0,oz1,oz2,oz3,oz4,oz5,oz6,-⟩:=id Z1.facts7;clear hP
   focus
    simp only at i5;go_wp2_with fail;refine (i5 _ (hs.below hb3)).mono ?_;rintro e w6 ⟨u1,u2,u3,rfl,oN,b6⟩;obtain ⟨m1,j1,m2,j2,m3,j3,rfl,rfl,rfl⟩:=oN.forms;have R6:=R3.below b6;have hb6:=hb3.trans (b6.mono hb3.size);have hBX:X+1<w3.heap.size:=R3.lt;have hBw:w.heap.size≤w3.heap.size:=hb3.size;simp only at oN;clear b6 F3 R3 Z1 hb3 i5 y y0 y1 y2 y3 hs hl hd hu hsz I2 I3 I4 I5 I6 I7 I8 HRD HOK HLF hw oz oz0 oz1 oz2 oz3 oz4 oz5 oz6;go_upto_region 6 with fail;obtain ⟨O,hO⟩:=qN (w6.heap.size)
    have hXO:X+1<O:=by have:=R6.lt;omega
    have hNX:O≠X+1:=qO;have O1:At (w6.alloc (.cells #[.int .i64 nst,.slice m1 nl.length j1,.slice m2 nd.length j2,.slice m3 nu.length j3] 28)) O [.int .i64 nst,.slice m1 nl.length j1,.slice m2 nd.length j2,.slice m3 nu.length j3]:=At.new _ _ _ hO.symm rfl;have R7:=R6.alloc (.cells #[.int .i64 nst,.slice m1 nl.length j1,.slice m2 nd.length j2,.slice m3 nu.length j3] 28);have oN7:=oN.alloc (.cells #[.int .i64 nst,.slice m1 nl.length j1,.slice m2 nd.length j2,.slice m3 nu.length j3] 28);have hb7:=hb6.alloc hb6.size (.cells #[.int .i64 nst,.slice m1 nl.length j1,.slice m2 nd.length j2,.slice m3 nu.length j3] 28)
    try rw [hO]
    generalize w6.alloc (.cells #[.int .i64 nst,.slice m1 nl.length j1,.slice m2 nd.length j2,.slice m3 nu.length j3] 28)=w7 at *;clear R6 oN hb6 hO
    have bd:Below w7.heap.size w7 w7.drew:=by exact qHb
    have R:=R7.below bd;have hb:=hb7.trans (bd.mono hb7.size);have oc:=oN7.below bd;have hX1:w.heap.size≤X+1:=qO;obtain ⟨r,r0,r1,r2,r3,rf⟩:=id R.facts4;have hS0:=(O1.below bd).cells4;clear R7 oN7 hb7 O1 bd
    go_region_held3 (fun w'=>w'.cell? ⟨O,0,none⟩=some (.int .i64 nst)∧w'.cell? ⟨O,1,none⟩=some (.slice m1 nl.length j1)∧w'.cell? ⟨O,2,none⟩=some (.slice m2 nd.length j2)∧w'.cell? ⟨O,3,none⟩=some (.slice m3 nu.length j3)) (first|with_reducible assumption|with_reducible exact zadq hNX (by with_reducible assumption)) ((go_at_call 64;refine (zad8 pk _).mono ?_;rintro e wa ⟨rfl,cc⟩;have hS:=zab6 cc (by with_reducible assumption);(with_reducible have R:=R.below cc);(obtain ⟨r,r0,r1,r2,r3,rf⟩:=id R.facts4);(have hb:=hb.trans (cc.mono hb.size));(with_reducible have oc:=BkOwn.below oc cc);clear cc))
    all_goals
     go_wp2_with fail;have E:=zabl (X:=X+1) (v0:=.int .i64 nst) R oc hb hX1 hBX;obtain ⟨f,f0,f1,f2,f3,-⟩:=id E.r.facts4;refine bodyPost_ret (v:=.tuple #[.agg #[.int .i64 nst,.slice m1 nl.length j1,.slice m2 nd.length j2,.slice m3 nu.length j3],.string (doneB pk)]) (by simp [results,Tryz.results23,go_sem,f,f0,f1,f2,f3]) rfl ?_;rw [HL.out]
     exact ⟨_,_,_,rfl,E.o,E.b⟩
theorem zaod (a1 a2 a3:Option Addr) (c1 c2 c3:Nat) (st:Int) (l:List Lg) (d u:List Dd) (line:ByteArray) (w:World) (hl:l.length≤1048576) (hd:d.length≤1048576) (hu:u.length≤1048576) (hsz:line.size≤1048576) (hs:RdB w a1 a2 a3 ⟨⟨st,l⟩,d,u⟩) (hw:Lby w) :
 Calls Tryz.prog 23 #[.agg #[.int .i64 st,.slice a1 l.length c1,.slice a2 d.length c2,.slice a3 u.length c3],.string line] w (LnOut (lineF ⟨⟨st,l⟩,d,u⟩ line) w):=by
 cases hok:bkOk ⟨⟨st,l⟩,d,u⟩
 · exact zaoc a1 a2 a3 c1 c2 c3 st l d u line w hl hd hu hsz hs hw hok
 · exact zaqr a1 a2 a3 c1 c2 c3 st l d u line w hl hd hu hsz hs hw hok
end Go.Proofs.YthfoloefkfadlaaGreatDoor
