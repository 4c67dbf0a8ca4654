/- The law FnExactBookLines, walked: for all arguments, wherever they lie in memory, it returns true, and leaves memory as it was (written by wip/bin/gen_e13.py). -/
import Derived.Test.YthfoloefkfadlaaGreatDoorMD
import Derived.Test.YthfoloefkfadlaaGreatDoorME
import Derived.Test.YthfoloefkfadlaaGreatDoorK3
import Derived.Deep.RegionHeld3
import Derived.Deep.DeepCutAuto
set_option linter.unusedSimpArgs false
set_option linter.unusedVariables false
namespace Go.Proofs.YthfoloefkfadlaaGreatDoor
open Go Go.RowKit Go.Sort

theorem szB_top (n1 n2 n3:Nat) {left:Int} (h:left≤1048576):szB n1 n2 n3 left≤1048576:=by
 have r1:=szL_range n1 left h
 have r2:=szL_range n2 _ r1.2
 have r3:=szL_range n3 _ r2.2
 unfold szB
 split
 · omega
 · split <;> omega
set_option maxRecDepth 100000 in
set_option maxHeartbeats 8000000 in
theorem exactBookLines (a0x a0y a0z:Option Addr) (c0x c0y c0z:Nat) (st0:Int) (l0:List Lg) (d0 u0:List Dd) (a1:Option Addr) (c1:Nat) (l1:List ByteArray) (w:World) (hl0:l0.length≤9223372036854775807) (hd0:d0.length≤9223372036854775807) (hu0:u0.length≤9223372036854775807) (hs0:RdB w a0x a0y a0z ⟨⟨st0,l0⟩,d0,u0⟩) (hl1:l1.length≤9223372036854775807) (hz1:∀ k,k<l1.length→(nth l1 k).size≤9223372036854775807) (hs1:Strs w a1 l1) (hlby:Lby w) :
 Calls Tryz.prog 5 #[.agg #[.int .i64 st0,.slice a0x l0.length c0x,.slice a0y d0.length c0y,.slice a0z u0.length c0z],.slice a1 l1.length c1] w fun e w'=>e=.returned (.bool true)∧Below w.heap.size w w':=by
 by_cases h0:szB l0.length d0.length u0.length 1048576<0
 · skip
   show Calls Tryz.prog 5 #[.agg #[.int .i64 st0,.slice a0x l0.length c0x,.slice a0y d0.length c0y,.slice a0z u0.length c0z],.slice a1 l1.length c1] w _
   obtain ⟨X,hX⟩:∃ X,w.heap.size=X:=⟨_,rfl⟩
   obtain ⟨W1,hW1⟩:∃ W1,W1=w.alloc (.cells #[.int .i64 st0,.slice a0x l0.length c0x,.slice a0y d0.length c0y,.slice a0z u0.length c0z] 50):=⟨_,rfl⟩
   have G0:At W1 X [.int .i64 st0,.slice a0x l0.length c0x,.slice a0y d0.length c0y,.slice a0z u0.length c0z]:=by rw [hW1];exact At.new _ _ _ hX.symm rfl
   have b0:Below w.heap.size w W1:=by rw [hW1];exact qBl
   go_enter Tryz.func5,Tryz.ntmps5
   go_wp2_with fail
   rw [← hW1]
   clear hW1
   refine (szBook_any _ _ _ _ _ _ _ _ _ _ _ _ hl0 hd0 hu0 (by omega) (by omega)).mono ?_
   rintro e v0 ⟨rfl,c⟩
   replace G0:=G0.below c
   replace b0:=b0.trans (c.mono b0.size)
   clear c
   go_wp2_with fail
   go_ret
   exact ⟨rfl,b0⟩
 have hp0:0≤szB l0.length d0.length u0.length 1048576:=by omega
 have hp1:=szB_top l0.length d0.length u0.length (left:=1048576) (by omega)
 by_cases h1:szU l1 (szB l0.length d0.length u0.length 1048576)<0
 · skip
   show Calls Tryz.prog 5 #[.agg #[.int .i64 st0,.slice a0x l0.length c0x,.slice a0y d0.length c0y,.slice a0z u0.length c0z],.slice a1 l1.length c1] w _
   obtain ⟨X,hX⟩:∃ X,w.heap.size=X:=⟨_,rfl⟩
   obtain ⟨W1,hW1⟩:∃ W1,W1=w.alloc (.cells #[.int .i64 st0,.slice a0x l0.length c0x,.slice a0y d0.length c0y,.slice a0z u0.length c0z] 50):=⟨_,rfl⟩
   have G0:At W1 X [.int .i64 st0,.slice a0x l0.length c0x,.slice a0y d0.length c0y,.slice a0z u0.length c0z]:=by rw [hW1];exact At.new _ _ _ hX.symm rfl
   have b0:Below w.heap.size w W1:=by rw [hW1];exact qBl
   go_enter Tryz.func5,Tryz.ntmps5
   go_wp2_with fail
   rw [← hW1]
   clear hW1
   refine (szBook_any _ _ _ _ _ _ _ _ _ _ _ _ hl0 hd0 hu0 (by omega) (by omega)).mono ?_
   rintro e v0 ⟨rfl,c⟩
   replace G0:=G0.below c
   replace b0:=b0.trans (c.mono b0.size)
   clear c
   go_wp2_with fail
   refine (szTexts_any a1 c1 l1 (szB l0.length d0.length u0.length 1048576) _ hl1 hz1 hp0 hp1 (hs1.below b0)).mono ?_
   rintro e v1 ⟨rfl,rfl⟩
   go_wp2_with fail
   go_ret
   exact ⟨rfl,b0⟩
 have hq0:=szB_le h0
 have hlb0:l0.length≤1048576∧d0.length≤1048576∧u0.length≤1048576:=by omega
 clear hq0
 obtain ⟨hlb1,hzz1⟩:=szU_le hp1 h1
 obtain ⟨⟨⟨⟨rst,rl⟩,rd,ru⟩,rts⟩,hR⟩:∃ p,linesTop ⟨⟨st0,l0⟩,d0,u0⟩ l1=p:=⟨_,rfl⟩
 have KS:=Lib.hid (show ∀ (g0x g0y g0z n0x n0y n0z g1 n1:Nat) (w':World),RdB w' (some ⟨g0x,0,none⟩) (some ⟨g0y,0,none⟩) (some ⟨g0z,0,none⟩) ⟨⟨st0,l0⟩,d0,u0⟩→Strs w' (some ⟨g1,0,none⟩) l1→Calls Tryz.prog 9 #[.agg #[.int .i64 st0,.slice (some ⟨g0x,0,none⟩) l0.length n0x,.slice (some ⟨g0y,0,none⟩) d0.length n0y,.slice (some ⟨g0z,0,none⟩) u0.length n0z],.slice (some ⟨g1,0,none⟩) l1.length n1] w' (fun e w''=>∃ (rax ray raz:Option Addr) (rcx rcy rcz:Nat) (rat:Option Addr) (rct:Nat),e=.returned (.tuple #[.agg #[.int .i64 rst,.slice rax rl.length rcx,.slice ray rd.length rcy,.slice raz ru.length rcz],.slice rat rts.length rct])∧BkOwn w'' w'.heap.size (.slice rax rl.length rcx) (.slice ray rd.length rcy) (.slice raz ru.length rcz) ⟨⟨rst,rl⟩,rd,ru⟩∧OwnT w'' w'.heap.size (.slice rat rts.length rct) rts∧Below w'.heap.size w' w'') from by
  intro g0x g0y g0z n0x n0y n0z g1 n1 w' hr0 hr1
  have:=sbookLines_any (some ⟨g0x,0,none⟩) (some ⟨g0y,0,none⟩) (some ⟨g0z,0,none⟩) n0x n0y n0z st0 l0 d0 u0 (some ⟨g1,0,none⟩) n1 l1 w' hlb0.1 hlb0.2.1 hlb0.2.2 hlb1 hzz1 hr0 hr1
  rw [hR] at this
  refine this.mono ?_
  rintro e w'' ⟨v1,v2,v3,va,rfl,o,ot,b⟩
  obtain ⟨a1,c1,a2,c2,a3,c3,rfl,rfl,rfl⟩:=o.forms
  obtain ⟨at1,ct1,rfl⟩:=ot.sl
  exact ⟨a1,a2,a3,c1,c2,c3,at1,ct1,rfl,o,ot,b⟩)
 have KI:=Lib.hid (show ∀ (g0x g0y g0z n0x n0y n0z g1 n1:Nat) (w':World),RdB w' (some ⟨g0x,0,none⟩) (some ⟨g0y,0,none⟩) (some ⟨g0z,0,none⟩) ⟨⟨st0,l0⟩,d0,u0⟩→Strs w' (some ⟨g1,0,none⟩) l1→Lby w'→Calls Tryz.prog 8 #[.agg #[.int .i64 st0,.slice (some ⟨g0x,0,none⟩) l0.length n0x,.slice (some ⟨g0y,0,none⟩) d0.length n0y,.slice (some ⟨g0z,0,none⟩) u0.length n0z],.slice (some ⟨g1,0,none⟩) l1.length n1] w' (fun e w''=>∃ (rax ray raz:Option Addr) (rcx rcy rcz:Nat) (rat:Option Addr) (rct:Nat),e=.returned (.tuple #[.agg #[.int .i64 rst,.slice rax rl.length rcx,.slice ray rd.length rcy,.slice raz ru.length rcz],.slice rat rts.length rct])∧BkOwn w'' w'.heap.size (.slice rax rl.length rcx) (.slice ray rd.length rcy) (.slice raz ru.length rcz) ⟨⟨rst,rl⟩,rd,ru⟩∧OwnT w'' w'.heap.size (.slice rat rts.length rct) rts∧Below w'.heap.size w' w'') from by
  intro g0x g0y g0z n0x n0y n0z g1 n1 w' hr0 hr1 hlw
  have:=bookLines_any (some ⟨g0x,0,none⟩) (some ⟨g0y,0,none⟩) (some ⟨g0z,0,none⟩) n0x n0y n0z st0 l0 d0 u0 (some ⟨g1,0,none⟩) n1 l1 w' hlb0.1 hlb0.2.1 hlb0.2.2 hlb1 hzz1 hr0 hr1 hlw
  rw [hR] at this
  refine this.mono ?_
  rintro e w'' ⟨v1,v2,v3,va,rfl,o,ot,b⟩
  obtain ⟨a1,c1,a2,c2,a3,c3,rfl,rfl,rfl⟩:=o.forms
  obtain ⟨at1,ct1,rfl⟩:=ot.sl
  exact ⟨a1,a2,a3,c1,c2,c3,at1,ct1,rfl,o,ot,b⟩)
 have hrl:rl.length≤1048580∧rd.length≤1048580∧ru.length≤1048580∧rts.length≤1048580:=by
  have:=linesTop_len ⟨⟨st0,l0⟩,d0,u0⟩ l1
  rw [hR] at this
  simp only at this
  omega
 clear hR
 show Calls Tryz.prog 5 #[.agg #[.int .i64 st0,.slice a0x l0.length c0x,.slice a0y d0.length c0y,.slice a0z u0.length c0z],.slice a1 l1.length c1] w _
 obtain ⟨X,hX⟩:∃ X,w.heap.size=X:=⟨_,rfl⟩
 obtain ⟨W1,hW1⟩:∃ W1,W1=w.alloc (.cells #[.int .i64 st0,.slice a0x l0.length c0x,.slice a0y d0.length c0y,.slice a0z u0.length c0z] 50):=⟨_,rfl⟩
 have G0:At W1 X [.int .i64 st0,.slice a0x l0.length c0x,.slice a0y d0.length c0y,.slice a0z u0.length c0z]:=by rw [hW1];exact At.new _ _ _ hX.symm rfl
 have b0:Below w.heap.size w W1:=by rw [hW1];exact qBl
 go_enter Tryz.func5,Tryz.ntmps5
 go_wp2_with fail
 rw [← hW1]
 clear hW1
 refine (szBook_any _ _ _ _ _ _ _ _ _ _ _ _ hl0 hd0 hu0 (by omega) (by omega)).mono ?_
 rintro e v0 ⟨rfl,c⟩
 replace G0:=G0.below c
 replace b0:=b0.trans (c.mono b0.size)
 clear c
 go_wp2_with fail
 refine (szTexts_any a1 c1 l1 (szB l0.length d0.length u0.length 1048576) _ hl1 hz1 hp0 hp1 (hs1.below b0)).mono ?_
 rintro e v1 ⟨rfl,rfl⟩
 skip
 obtain ⟨EVw,hEV⟩:∃ E,E=v0.heap.size:=⟨_,rfl⟩
 have hle:EVw≤v0.heap.size:=by omega
 obtain ⟨t0,t1,t2,t3,t4,-⟩:=id G0.facts4
 go_wp2_with fail
 refine (toBook_any _ _ _ _ _ _ st0 l0 d0 u0 _ hlb0.1 hlb0.2.1 hlb0.2.2 (hs0.below b0)).mono ?_
 rintro e w1 ⟨gyx,gyy,gyz,rfl,oy,c⟩
 clear t0 t1 t2 t3 t4
 replace hle:=Nat.le_trans hle c.size
 replace G0:=G0.below c
 replace b0:=b0.trans (c.mono b0.size)
 clear c
 go_wp2_with fail
 refine (toTexts_any a1 c1 l1 _ hlb1 (hs1.below b0)).mono ?_
 rintro e w2 ⟨gyt,rfl,oyt,c⟩
 replace hle:=Nat.le_trans hle c.size
 replace G0:=G0.below c
 replace oy:=oy.below c
 replace b0:=b0.trans (c.mono b0.size)
 clear c
 go_wp2_with fail
 refine (KS.out _ _ _ _ _ _ _ _ _ oy.kr oyt.kr).mono ?_
 rintro e w3 ⟨awx,awy,awz,cwx,cwy,cwz,atw,ctw,rfl,ow,otw,c⟩
 replace ow:=ow.mono hle
 replace otw:=otw.mono hle
 replace hle:=Nat.le_trans hle c.size
 replace G0:=G0.below c
 replace oy:=oy.below c
 replace oyt:=oyt.below c
 replace b0:=b0.trans (c.mono b0.size)
 clear c
 clear oy oyt
 go_upto_region 9 with fail
 obtain ⟨Bw,hY⟩:∃ Y,w3.heap.size=Y:=⟨_,rfl⟩
 obtain ⟨w4,hV⟩:∃ V,V=w3.alloc (.cells #[.int .i64 rst,.slice awx rl.length cwx,.slice awy rd.length cwy,.slice awz ru.length cwz] 28):=⟨_,rfl⟩
 have c:Below w3.heap.size w3 w4:=by rw [hV];exact qBl
 have Aw:At w4 Bw [.int .i64 rst,.slice awx rl.length cwx,.slice awy rd.length cwy,.slice awz ru.length cwz]:=by rw [hV];exact At.new _ _ _ hY.symm rfl
 have new:∀ k,bkBlk (.slice awx rl.length cwx) (.slice awy rd.length cwy) (.slice awz ru.length cwz) k→k≠Bw:=fun k hk=>by have:=(ow.blk hk).2;omega
 have ntw:∀ k,(Value.slice atw rts.length ctw).ownBlock=some k→k≠Bw:=fun k hk=>by have:=(KOwn.lt otw hk).2;omega
 have hBw:EVw≤Bw:=by omega
 rw [hY,← hV]
 replace G0:=G0.below c
 replace ow:=ow.below c
 replace otw:=otw.below c
 replace b0:=b0.trans (c.mono b0.size)
 clear c
 clear hV hY
 clear hle
 rw [hEV] at hBw ow otw
 clear hEV
 obtain ⟨E0,hE0⟩:∃ E,E=w4.heap.size:=⟨_,rfl⟩
 have uw0:∀ k,bkBlk (.slice awx rl.length cwx) (.slice awy rd.length cwy) (.slice awz ru.length cwz) k→k<E0:=fun k hk=>by rw [hE0];exact (ow.blk hk).2
 have utw0:∀ k,(Value.slice atw rts.length ctw).ownBlock=some k→k<E0:=fun k hk=>by rw [hE0];exact (KOwn.lt otw hk).2
 have vw0:Bw<E0:=by rw [hE0];exact Aw.lt
 have vg0:X<E0:=by rw [hE0];exact G0.lt
 have ub0:w.heap.size≤E0:=by rw [hE0];exact b0.size
 obtain ⟨t0,t1,t2,t3,t4,-⟩:=id G0.facts4
 go_wp2_with fail
 refine (toBook_any _ _ _ _ _ _ st0 l0 d0 u0 _ hlb0.1 hlb0.2.1 hlb0.2.2 (hs0.below b0)).mono ?_
 rintro e w5 ⟨gx0x,gx0y,gx0z,rfl,ox0,c⟩
 clear t0 t1 t2 t3 t4
 rw [← hE0] at ox0
 have es0:E0≤w5.heap.size:=by rw [hE0];exact c.size
 replace G0:=G0.below c
 replace ow:=ow.below c
 replace otw:=otw.below c
 replace Aw:=Aw.below c
 replace b0:=b0.trans (c.mono b0.size)
 clear c
 go_upto_region 10 with fail
 obtain ⟨Bx0,hY⟩:∃ Y,w5.heap.size=Y:=⟨_,rfl⟩
 obtain ⟨w6,hV⟩:∃ V,V=w5.alloc (.cells #[.int .i64 st0,.slice (some ⟨gx0x,0,none⟩) l0.length l0.length,.slice (some ⟨gx0y,0,none⟩) d0.length d0.length,.slice (some ⟨gx0z,0,none⟩) u0.length u0.length] 28):=⟨_,rfl⟩
 have c:Below w5.heap.size w5 w6:=by rw [hV];exact qBl
 have Ax0:At w6 Bx0 [.int .i64 st0,.slice (some ⟨gx0x,0,none⟩) l0.length l0.length,.slice (some ⟨gx0y,0,none⟩) d0.length d0.length,.slice (some ⟨gx0z,0,none⟩) u0.length u0.length]:=by rw [hV];exact At.new _ _ _ hY.symm rfl
 rw [hY] at es0
 have nx0:∀ k,bkBlk (.slice (some ⟨gx0x,0,none⟩) l0.length l0.length) (.slice (some ⟨gx0y,0,none⟩) d0.length d0.length) (.slice (some ⟨gx0z,0,none⟩) u0.length u0.length) k→k<Bx0:=fun k hk=>by rw [← hY];exact (ox0.blk hk).2
 rw [hY,← hV]
 replace G0:=G0.below c
 replace ow:=ow.below c
 replace otw:=otw.below c
 replace Aw:=Aw.below c
 replace ox0:=ox0.below c
 replace b0:=b0.trans (c.mono b0.size)
 clear c
 clear hV hY
 clear hE0
 obtain ⟨E1,hE1⟩:∃ E,E=w6.heap.size:=⟨_,rfl⟩
 have uw1:∀ k,bkBlk (.slice awx rl.length cwx) (.slice awy rd.length cwy) (.slice awz ru.length cwz) k→k<E1:=fun k hk=>by rw [hE1];exact (ow.blk hk).2
 have utw1:∀ k,(Value.slice atw rts.length ctw).ownBlock=some k→k<E1:=fun k hk=>by rw [hE1];exact (KOwn.lt otw hk).2
 have vw1:Bw<E1:=by rw [hE1];exact Aw.lt
 have vg1:X<E1:=by rw [hE1];exact G0.lt
 have ub1:w.heap.size≤E1:=by rw [hE1];exact b0.size
 go_wp2_with fail
 refine (toTexts_any a1 c1 l1 _ hlb1 (hs1.below b0)).mono ?_
 rintro e w7 ⟨gx1,rfl,ox1,c⟩
 rw [← hE1] at ox1
 replace G0:=G0.below c
 replace ow:=ow.below c
 replace otw:=otw.below c
 replace Aw:=Aw.below c
 replace ox0:=ox0.below c
 replace Ax0:=Ax0.below c
 replace b0:=b0.trans (c.mono b0.size)
 clear c
 clear hE1
 obtain ⟨Eg,hEg⟩:∃ E,E=w7.heap.size:=⟨_,rfl⟩
 have uwg:∀ k,bkBlk (.slice awx rl.length cwx) (.slice awy rd.length cwy) (.slice awz ru.length cwz) k→k<Eg:=fun k hk=>by rw [hEg];exact (ow.blk hk).2
 have utwg:∀ k,(Value.slice atw rts.length ctw).ownBlock=some k→k<Eg:=fun k hk=>by rw [hEg];exact (KOwn.lt otw hk).2
 have vwg:Bw<Eg:=by rw [hEg];exact Aw.lt
 have vgg:X<Eg:=by rw [hEg];exact G0.lt
 have ubg:w.heap.size≤Eg:=by rw [hEg];exact b0.size
 have uxg0:∀ k,bkBlk (.slice (some ⟨gx0x,0,none⟩) l0.length l0.length) (.slice (some ⟨gx0y,0,none⟩) d0.length d0.length) (.slice (some ⟨gx0z,0,none⟩) u0.length u0.length) k→k<Eg:=fun k hk=>by rw [hEg];exact (ox0.blk hk).2
 have vxg0:Bx0<Eg:=by rw [hEg];exact Ax0.lt
 have uxg1:gx1<Eg:=by rw [hEg];exact (KOwn.lt ox1 (k:=gx1) rfl).2
 have lxg1:E1≤gx1:=(KOwn.lt ox1 (k:=gx1) rfl).1
 obtain ⟨EVg,hEV⟩:∃ E,E=w7.heap.size:=⟨_,rfl⟩
 have hle:EVg≤w7.heap.size:=by omega
 obtain ⟨t0,t1,t2,t3,t4,-⟩:=id Ax0.facts4
 go_wp2_with fail
 refine (KI.out _ _ _ _ _ _ _ _ _ ox0.kr ox1.kr (hlby.below b0)).mono ?_
 rintro e w8 ⟨agx,agy,agz,cgx,cgy,cgz,atg,ctg,rfl,og,otg,c⟩
 clear t0 t1 t2 t3 t4
 replace og:=og.mono hle
 replace otg:=otg.mono hle
 replace hle:=Nat.le_trans hle c.size
 replace G0:=G0.below c
 replace ow:=ow.below c
 replace otw:=otw.below c
 replace Aw:=Aw.below c
 replace ox0:=ox0.below c
 replace Ax0:=Ax0.below c
 replace ox1:=ox1.below c
 replace b0:=b0.trans (c.mono b0.size)
 clear c
 go_upto_region 12 with fail
 obtain ⟨Bg,hY⟩:∃ Y,w8.heap.size=Y:=⟨_,rfl⟩
 obtain ⟨w9,hV⟩:∃ V,V=w8.alloc (.cells #[.int .i64 rst,.slice agx rl.length cgx,.slice agy rd.length cgy,.slice agz ru.length cgz] 28):=⟨_,rfl⟩
 have c:Below w8.heap.size w8 w9:=by rw [hV];exact qBl
 have Ag:At w9 Bg [.int .i64 rst,.slice agx rl.length cgx,.slice agy rd.length cgy,.slice agz ru.length cgz]:=by rw [hV];exact At.new _ _ _ hY.symm rfl
 have neg:∀ k,bkBlk (.slice agx rl.length cgx) (.slice agy rd.length cgy) (.slice agz ru.length cgz) k→k≠Bg:=fun k hk=>by have:=(og.blk hk).2;omega
 have ntg:∀ k,(Value.slice atg rts.length ctg).ownBlock=some k→k≠Bg:=fun k hk=>by have:=(KOwn.lt otg hk).2;omega
 have hBg:EVg≤Bg:=by omega
 rw [hY,← hV]
 replace G0:=G0.below c
 replace ow:=ow.below c
 replace otw:=otw.below c
 replace Aw:=Aw.below c
 replace ox0:=ox0.below c
 replace Ax0:=Ax0.below c
 replace ox1:=ox1.below c
 replace og:=og.below c
 replace otg:=otg.below c
 replace b0:=b0.trans (c.mono b0.size)
 clear c
 clear hV hY
 clear hle
 rw [hEV] at hBg og otg
 clear hEV
 rw [← hEg] at hBg og otg
 clear hEg
 obtain ⟨e0,e1,e2,e3,e4,-⟩:=id Ag.facts4
 obtain ⟨f0,f1,f2,f3,f4,-⟩:=id Aw.facts4
 go_wp2_with fail
 refine (eqBook_any _ _ _ _ _ _ _ _ _ _ _ _ rst rl rd ru _ hrl.1 hrl.2.1 hrl.2.2.1 og.kr ow.kr).mono ?_
 rintro e w10 ⟨rfl,c⟩
 clear e0 e1 e2 e3 e4 f0 f1 f2 f3 f4
 replace G0:=G0.below c
 replace ow:=ow.below c
 replace otw:=otw.below c
 replace Aw:=Aw.below c
 replace ox0:=ox0.below c
 replace Ax0:=Ax0.below c
 replace ox1:=ox1.below c
 replace og:=og.below c
 replace otg:=otg.below c
 replace Ag:=Ag.below c
 replace b0:=b0.trans (c.mono b0.size)
 clear c
 go_wp2_with fail
 refine (eqTexts_any _ _ _ _ rts _ hrl.2.2.2 otg.kr otw.kr).mono ?_
 rintro e w11 ⟨rfl,c⟩
 replace G0:=G0.below c
 replace ow:=ow.below c
 replace otw:=otw.below c
 replace Aw:=Aw.below c
 replace ox0:=ox0.below c
 replace Ax0:=Ax0.below c
 replace ox1:=ox1.below c
 replace og:=og.below c
 replace otg:=otg.below c
 replace Ag:=Ag.below c
 replace b0:=b0.trans (c.mono b0.size)
 clear c
 obtain ⟨t0,t1,t2,t3,t4,-⟩:=id Ax0.facts4
 obtain ⟨s0,s1,s2,s3,s4,-⟩:=id G0.facts4
 have hr:=hs0.below b0
 have hq:=ox0.kr
 go_upto_region 14 with fail
 go_cut [59] (fun p wx=>p=.bool false∧Below w11.heap.size w11 wx)
 case first =>
  go_region_held3 (fun w'=>Below w11.heap.size w11 w'∧∀ b o,b<w11.heap.size→w'.cell? ⟨b,o,none⟩=w11.cell? ⟨b,o,none⟩) (exact kept qHb)
   (first
   | (go_at_call 22;refine (toBook_any _ _ _ _ _ _ st0 l0 d0 u0 _ hlb0.1 hlb0.2.1 hlb0.2.2 (hr.below qHb)).mono ?_;rintro e wy ⟨gyx,gyy,gyz,rfl,oy,c⟩;have By:=kept_next (V:=w11) qHb c;have zy:=By.size;clear c)
   | (go_at_call 24;refine (eqBook_any _ _ _ _ _ _ _ _ _ _ _ _ st0 l0 d0 u0 _ (by omega) (by omega) (by omega) (hq.below qHb) oy.kr).mono ?_;rintro e wz ⟨rfl,c⟩;have Bz:=kept_next (V:=w11) qHb c;have zz:=Bz.size;clear c))
  all_goals (go_wp2_with fail;go_meet)
  all_goals exact ⟨rfl,qHb⟩
 case rest =>
  obtain ⟨rfl,bb⟩:=hcut
  clear t0 t1 t2 t3 t4 s0 s1 s2 s3 s4 hr hq
  replace G0:=G0.below bb
  replace ow:=ow.below bb
  replace otw:=otw.below bb
  replace Aw:=Aw.below bb
  replace ox0:=ox0.below bb
  replace Ax0:=Ax0.below bb
  replace ox1:=ox1.below bb
  replace og:=og.below bb
  replace otg:=otg.below bb
  replace Ag:=Ag.below bb
  replace b0:=b0.trans (bb.mono b0.size)
  clear bb
  go_wp2_with fail
  refine (toTexts_any a1 c1 l1 _ hlb1 (hs1.below b0)).mono ?_
  rintro e w12 ⟨gyt,rfl,oyt,c⟩
  replace G0:=G0.below c
  replace ow:=ow.below c
  replace otw:=otw.below c
  replace Aw:=Aw.below c
  replace ox0:=ox0.below c
  replace Ax0:=Ax0.below c
  replace ox1:=ox1.below c
  replace og:=og.below c
  replace otg:=otg.below c
  replace Ag:=Ag.below c
  replace b0:=b0.trans (c.mono b0.size)
  clear c
  go_wp2_with fail
  refine (eqTexts_any _ _ _ _ l1 _ (by omega) ox1.kr oyt.kr).mono ?_
  rintro e w13 ⟨rfl,c⟩
  clear oyt
  replace G0:=G0.below c
  replace ow:=ow.below c
  replace otw:=otw.below c
  replace Aw:=Aw.below c
  replace ox0:=ox0.below c
  replace Ax0:=Ax0.below c
  replace ox1:=ox1.below c
  replace og:=og.below c
  replace otg:=otg.below c
  replace Ag:=Ag.below c
  replace b0:=b0.trans (c.mono b0.size)
  clear c
  have zE:E0≤w13.heap.size:=by have:=Ax0.lt;omega
  obtain ⟨t0,t1,t2,t3,t4,-⟩:=id Ax0.facts4
  go_wp2_with fail
  refine (markBook_any E0 _ _ _ _ _ _ st0 l0 d0 u0 (1) _ (by omega) (by omega) (by omega) (by omega) (by omega) (by omega) ox0).mono ?_
  rintro e w14 ⟨rfl,om,hw⟩
  clear t0 t1 t2 t3 t4
  clear zE
  replace G0:=G0.block (hw.block _ G0.lt fun hj=>by have:=(ox0.blk hj).1;omega)
  replace Aw:=Aw.block (hw.block _ Aw.lt fun hj=>by have:=(ox0.blk hj).1;omega)
  replace ow:=ow.wr hw (fun j hj h=>by have:=(ox0.blk h).1;have:=uw0 j hj;omega)
  replace Ag:=Ag.block (hw.block _ Ag.lt fun hj=>by have:=uxg0 _ hj;omega)
  replace og:=og.wr hw (fun j hj h=>by have:=uxg0 _ h;have:=(og.blk hj).1;omega)
  replace otw:=KOwn.wr otw hw (fun j hj h=>texts_apart otw ox0 h hj)
  replace otg:=KOwn.wr otg hw (fun j hj h=>by have:=uxg0 _ h;have:=(KOwn.lt otg hj).1;omega)
  replace ox1:=KOwn.wr ox1 hw (fun j hj h=>texts_apart ox1 ox0 h hj)
  replace b0:=b0.trans (hw.below (B:=w.heap.size) b0.size fun j hj=>by have:=(ox0.blk hj).1;omega)
  clear hw om ox0 Ax0
  have hkk:0≤1+5*(l0.length:Int)+7*(d0.length:Int)+7*(u0.length:Int):=by omega
  go_wp2_with fail
  refine (markTexts_any E1 _ _ l1 (1+5*(l0.length:Int)+7*(d0.length:Int)+7*(u0.length:Int)) _ (by omega) (by omega) (by omega) ox1).mono ?_
  rintro e w15 ⟨rfl,om,hw⟩
  have hgx:∀ j,(Value.slice (some ⟨gx1,0,none⟩) l1.length l1.length).ownBlock=some j→gx1=j:=fun j hj=>Option.some.inj hj
  replace G0:=G0.block (hw.block _ G0.lt fun hj=>by have:=hgx _ hj;omega)
  replace Aw:=Aw.block (hw.block _ Aw.lt fun hj=>by have:=hgx _ hj;omega)
  replace ow:=ow.wr hw (fun j hj h=>by have:=hgx _ h;have:=uw1 j hj;omega)
  replace Ag:=Ag.block (hw.block _ Ag.lt fun hj=>by have:=hgx _ hj;omega)
  replace og:=og.wr hw (fun j hj h=>by have:=hgx _ h;have:=(og.blk hj).1;omega)
  replace otw:=KOwn.wr otw hw (fun j hj h=>by have:=hgx _ h;have:=utw1 j hj;omega)
  replace otg:=KOwn.wr otg hw (fun j hj h=>by have:=hgx _ h;have:=(KOwn.lt otg hj).1;omega)
  replace b0:=b0.trans (hw.below (B:=w.heap.size) b0.size fun j hj=>by have:=hgx _ hj;omega)
  clear hw om ox1 hgx hkk
  have hkk:0≤1+5*(l0.length:Int)+7*(d0.length:Int)+7*(u0.length:Int)+(l1.length:Int):=by omega
  obtain ⟨e0,e1,e2,e3,e4,-⟩:=id Ag.facts4
  obtain ⟨f0,f1,f2,f3,f4,-⟩:=id Aw.facts4
  go_wp2_with fail
  refine (eqBook_any _ _ _ _ _ _ _ _ _ _ _ _ rst rl rd ru _ hrl.1 hrl.2.1 hrl.2.2.1 og.kr ow.kr).mono ?_
  rintro e w16 ⟨rfl,c⟩
  clear e0 e1 e2 e3 e4 f0 f1 f2 f3 f4
  replace G0:=G0.below c
  replace ow:=ow.below c
  replace otw:=otw.below c
  replace Aw:=Aw.below c
  replace og:=og.below c
  replace otg:=otg.below c
  replace Ag:=Ag.below c
  replace b0:=b0.trans (c.mono b0.size)
  clear c
  go_wp2_with fail
  refine (eqTexts_any _ _ _ _ rts _ hrl.2.2.2 otg.kr otw.kr).mono ?_
  rintro e w17 ⟨rfl,c⟩
  replace G0:=G0.below c
  replace ow:=ow.below c
  replace otw:=otw.below c
  replace Aw:=Aw.below c
  replace og:=og.below c
  replace otg:=otg.below c
  replace Ag:=Ag.below c
  replace b0:=b0.trans (c.mono b0.size)
  clear c
  clear hkk
  have zE:Eg≤w17.heap.size:=by have:=Ag.lt;omega
  obtain ⟨t0,t1,t2,t3,t4,-⟩:=id Ag.facts4
  go_wp2_with fail
  refine (markBook_any Eg _ _ _ _ _ _ rst rl rd ru (1) _ (by omega) (by omega) (by omega) (by omega) (by omega) (by omega) og).mono ?_
  rintro e w18 ⟨rfl,om,hw⟩
  clear t0 t1 t2 t3 t4
  clear zE
  replace G0:=G0.block (hw.block _ G0.lt fun hj=>by have:=(og.blk hj).1;omega)
  replace Aw:=Aw.block (hw.block _ Aw.lt fun hj=>by have:=(og.blk hj).1;omega)
  replace ow:=ow.wr hw (fun j hj h=>by have:=(og.blk h).1;have:=uwg j hj;omega)
  replace Ag:=Ag.block (hw.block _ Ag.lt fun hj=>by exact neg _ hj rfl)
  replace otw:=KOwn.wr otw hw (fun j hj h=>texts_apart otw og h hj)
  replace otg:=KOwn.wr otg hw (fun j hj h=>texts_apart otg og h hj)
  replace b0:=b0.trans (hw.below (B:=w.heap.size) b0.size fun j hj=>by have:=(og.blk hj).1;omega)
  replace og:=om
  clear hw om
  have hm1:0≤1+5*(rl.length:Int)+7*(rd.length:Int)+7*(ru.length:Int):=by omega
  go_wp2_with fail
  refine (markTexts_any Eg _ _ rts (1+5*(rl.length:Int)+7*(rd.length:Int)+7*(ru.length:Int)) _ (by omega) (by omega) (by omega) otg).mono ?_
  rintro e w19 ⟨rfl,om,hw⟩
  replace G0:=G0.block (hw.block _ G0.lt fun hj=>by have:=(KOwn.lt otg hj).1;omega)
  replace Aw:=Aw.block (hw.block _ Aw.lt fun hj=>by have:=(KOwn.lt otg hj).1;omega)
  replace ow:=ow.wr hw (fun j hj h=>by have:=(KOwn.lt otg h).1;have:=uwg j hj;omega)
  replace Ag:=Ag.block (hw.block _ Ag.lt fun hj=>by exact ntg _ hj rfl)
  replace og:=og.wr hw (fun j hj h=>texts_apart otg og hj h)
  replace otw:=KOwn.wr otw hw (fun j hj h=>by have:=(KOwn.lt otg h).1;have:=utwg j hj;omega)
  replace b0:=b0.trans (hw.below (B:=w.heap.size) b0.size fun j hj=>by have:=(KOwn.lt otg hj).1;omega)
  replace otg:=om
  clear hw om
  have hm3:0≤1+5*(rl.length:Int)+7*(rd.length:Int)+7*(ru.length:Int)+(rts.length:Int):=by omega
  have hm2:((1+5*(rl.length:Int)+7*(rd.length:Int)+7*(ru.length:Int)+(rts.length:Int):Int) != (1+5*(rl.length:Int)+7*(rd.length:Int)+7*(ru.length:Int)+(rts.length:Int):Int))=false:=by simp
  obtain ⟨t0,t1,t2,t3,t4,-⟩:=id Ag.facts4
  go_wp2_with fail
  refine (heldBook_any _ _ _ rl.length rd.length ru.length _ _ _ rst 1 ⟨⟨rst,rl⟩,rd,ru⟩ _ rfl rfl rfl hrl.1 hrl.2.1 hrl.2.2.1 (by omega) (by omega) og.kr).mono ?_
  rintro e w20 ⟨rfl,c⟩
  clear t0 t1 t2 t3 t4
  replace G0:=G0.below c
  replace ow:=ow.below c
  replace otw:=otw.below c
  replace Aw:=Aw.below c
  replace og:=og.below c
  replace otg:=otg.below c
  replace Ag:=Ag.below c
  replace b0:=b0.trans (c.mono b0.size)
  clear c
  go_wp2_with fail
  refine (heldTexts_any _ _ rts.length (1+5*(rl.length:Int)+7*(rd.length:Int)+7*(ru.length:Int)) _ hrl.2.2.2 (by omega) (by omega) otg.kr).mono ?_
  rintro e w21 ⟨rfl,c⟩
  replace G0:=G0.below c
  replace ow:=ow.below c
  replace otw:=otw.below c
  replace Aw:=Aw.below c
  replace og:=og.below c
  replace otg:=otg.below c
  replace Ag:=Ag.below c
  replace b0:=b0.trans (c.mono b0.size)
  clear c
  obtain ⟨EVh,hEV⟩:∃ E,E=w21.heap.size:=⟨_,rfl⟩
  have hle:EVh≤w21.heap.size:=by omega
  obtain ⟨t0,t1,t2,t3,t4,-⟩:=id G0.facts4
  go_wp2_with fail
  refine (toBook_any _ _ _ _ _ _ st0 l0 d0 u0 _ hlb0.1 hlb0.2.1 hlb0.2.2 (hs0.below b0)).mono ?_
  rintro e w22 ⟨gyx,gyy,gyz,rfl,oy,c⟩
  clear t0 t1 t2 t3 t4
  replace hle:=Nat.le_trans hle c.size
  replace G0:=G0.below c
  replace ow:=ow.below c
  replace otw:=otw.below c
  replace Aw:=Aw.below c
  replace og:=og.below c
  replace otg:=otg.below c
  replace Ag:=Ag.below c
  replace b0:=b0.trans (c.mono b0.size)
  clear c
  go_wp2_with fail
  refine (toTexts_any a1 c1 l1 _ hlb1 (hs1.below b0)).mono ?_
  rintro e w23 ⟨gyt,rfl,oyt,c⟩
  replace hle:=Nat.le_trans hle c.size
  replace G0:=G0.below c
  replace ow:=ow.below c
  replace otw:=otw.below c
  replace Aw:=Aw.below c
  replace og:=og.below c
  replace otg:=otg.below c
  replace Ag:=Ag.below c
  replace oy:=oy.below c
  replace b0:=b0.trans (c.mono b0.size)
  clear c
  go_wp2_with fail
  refine (KI.out _ _ _ _ _ _ _ _ _ oy.kr oyt.kr (hlby.below b0)).mono ?_
  rintro e w24 ⟨ahx,ahy,ahz,chx,chy,chz,ath,cth,rfl,oh,oth,c⟩
  replace oh:=oh.mono hle
  replace oth:=oth.mono hle
  replace hle:=Nat.le_trans hle c.size
  replace G0:=G0.below c
  replace ow:=ow.below c
  replace otw:=otw.below c
  replace Aw:=Aw.below c
  replace og:=og.below c
  replace otg:=otg.below c
  replace Ag:=Ag.below c
  replace oy:=oy.below c
  replace oyt:=oyt.below c
  replace b0:=b0.trans (c.mono b0.size)
  clear c
  clear oy oyt
  go_upto_region 36 with fail
  obtain ⟨Bh,hY⟩:∃ Y,w24.heap.size=Y:=⟨_,rfl⟩
  obtain ⟨w25,hV⟩:∃ V,V=w24.alloc (.cells #[.int .i64 rst,.slice ahx rl.length chx,.slice ahy rd.length chy,.slice ahz ru.length chz] 28):=⟨_,rfl⟩
  have c:Below w24.heap.size w24 w25:=by rw [hV];exact qBl
  have Ah:At w25 Bh [.int .i64 rst,.slice ahx rl.length chx,.slice ahy rd.length chy,.slice ahz ru.length chz]:=by rw [hV];exact At.new _ _ _ hY.symm rfl
  have neh:∀ k,bkBlk (.slice ahx rl.length chx) (.slice ahy rd.length chy) (.slice ahz ru.length chz) k→k≠Bh:=fun k hk=>by have:=(oh.blk hk).2;omega
  have nth:∀ k,(Value.slice ath rts.length cth).ownBlock=some k→k≠Bh:=fun k hk=>by have:=(KOwn.lt oth hk).2;omega
  have hBh:EVh≤Bh:=by omega
  rw [hY,← hV]
  replace G0:=G0.below c
  replace ow:=ow.below c
  replace otw:=otw.below c
  replace Aw:=Aw.below c
  replace og:=og.below c
  replace otg:=otg.below c
  replace Ag:=Ag.below c
  replace oh:=oh.below c
  replace oth:=oth.below c
  replace b0:=b0.trans (c.mono b0.size)
  clear c
  clear hV hY
  clear hle
  rw [hEV] at hBh oh oth
  clear hEV
  obtain ⟨e0,e1,e2,e3,e4,-⟩:=id Ah.facts4
  obtain ⟨f0,f1,f2,f3,f4,-⟩:=id Aw.facts4
  go_wp2_with fail
  refine (eqBook_any _ _ _ _ _ _ _ _ _ _ _ _ rst rl rd ru _ hrl.1 hrl.2.1 hrl.2.2.1 oh.kr ow.kr).mono ?_
  rintro e w26 ⟨rfl,c⟩
  clear e0 e1 e2 e3 e4 f0 f1 f2 f3 f4
  replace G0:=G0.below c
  replace ow:=ow.below c
  replace otw:=otw.below c
  replace Aw:=Aw.below c
  replace og:=og.below c
  replace otg:=otg.below c
  replace Ag:=Ag.below c
  replace oh:=oh.below c
  replace oth:=oth.below c
  replace Ah:=Ah.below c
  replace b0:=b0.trans (c.mono b0.size)
  clear c
  go_wp2_with fail
  refine (eqTexts_any _ _ _ _ rts _ hrl.2.2.2 oth.kr otw.kr).mono ?_
  rintro e w27 ⟨rfl,c⟩
  replace G0:=G0.below c
  replace ow:=ow.below c
  replace otw:=otw.below c
  replace Aw:=Aw.below c
  replace og:=og.below c
  replace otg:=otg.below c
  replace Ag:=Ag.below c
  replace oh:=oh.below c
  replace oth:=oth.below c
  replace Ah:=Ah.below c
  replace b0:=b0.trans (c.mono b0.size)
  clear c
  obtain ⟨t0,t1,t2,t3,t4,-⟩:=id Ag.facts4
  go_wp2_with fail
  refine (heldBook_any _ _ _ rl.length rd.length ru.length _ _ _ rst 1 ⟨⟨rst,rl⟩,rd,ru⟩ _ rfl rfl rfl hrl.1 hrl.2.1 hrl.2.2.1 (by omega) (by omega) og.kr).mono ?_
  rintro e w28 ⟨rfl,c⟩
  clear t0 t1 t2 t3 t4
  replace G0:=G0.below c
  replace ow:=ow.below c
  replace otw:=otw.below c
  replace Aw:=Aw.below c
  replace og:=og.below c
  replace otg:=otg.below c
  replace Ag:=Ag.below c
  replace oh:=oh.below c
  replace oth:=oth.below c
  replace Ah:=Ah.below c
  replace b0:=b0.trans (c.mono b0.size)
  clear c
  go_wp2_with fail
  refine (heldTexts_any _ _ rts.length (1+5*(rl.length:Int)+7*(rd.length:Int)+7*(ru.length:Int)) _ hrl.2.2.2 (by omega) (by omega) otg.kr).mono ?_
  rintro e w29 ⟨rfl,c⟩
  replace G0:=G0.below c
  replace ow:=ow.below c
  replace otw:=otw.below c
  replace Aw:=Aw.below c
  replace og:=og.below c
  replace otg:=otg.below c
  replace Ag:=Ag.below c
  replace oh:=oh.below c
  replace oth:=oth.below c
  replace Ah:=Ah.below c
  replace b0:=b0.trans (c.mono b0.size)
  clear c
  go_wp2_with fail
  go_ret
  exact ⟨rfl,b0⟩
end Go.Proofs.YthfoloefkfadlaaGreatDoor
