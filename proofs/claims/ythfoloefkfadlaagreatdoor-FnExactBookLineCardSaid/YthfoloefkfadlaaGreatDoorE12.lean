/- The law FnExactBookLine, walked: for all arguments, wherever they lie in memory, it returns true, and leaves memory as it was (written by wip/bin/gen_exact.py). -/
import Derived.Test.YthfoloefkfadlaaGreatDoorMC
import Derived.Test.YthfoloefkfadlaaGreatDoorK3
import Derived.Deep.RegionHeld3
import Derived.Deep.DeepCutAuto
set_option linter.unusedSimpArgs false
set_option linter.unusedVariables false
namespace Go.Proofs.YthfoloefkfadlaaGreatDoor
open Go Go.RowKit Go.Sort

set_option maxRecDepth 100000 in
set_option maxHeartbeats 4000000 in
theorem exactBookLine (a0x a0y a0z:Option Addr) (c0x c0y c0z:Nat) (st0:Int) (l0:List Lg) (d0 u0:List Dd) (tx1:ByteArray) (w:World) (hl0:l0.length≤9223372036854775807) (hd0:d0.length≤9223372036854775807) (hu0:u0.length≤9223372036854775807) (hs0:RdB w a0x a0y a0z ⟨⟨st0,l0⟩,d0,u0⟩) (hz1:tx1.size≤9223372036854775807) (hlby:Lby w) :
    Calls Tryz.prog 4 #[.agg #[.int .i64 st0,.slice a0x l0.length c0x,.slice a0y d0.length c0y,.slice a0z u0.length c0z],.string tx1] w fun e w'=>e=.returned (.bool true)∧Below w.heap.size w w':=by
  by_cases hbig1:1048576<tx1.size
  · skip
    show Calls Tryz.prog 4 #[.agg #[.int .i64 st0,.slice a0x l0.length c0x,.slice a0y d0.length c0y,.slice a0z u0.length c0z],.string tx1] w _
    obtain ⟨X,hX⟩:∃ X,w.heap.size=X:=⟨_,rfl⟩
    obtain ⟨W1,hW1⟩:∃ W1,W1=w.alloc (.cells #[.int .i64 st0,.slice a0x l0.length c0x,.slice a0y d0.length c0y,.slice a0z u0.length c0z] 50):=⟨_,rfl⟩
    have G0:At W1 (X) [.int .i64 st0,.slice a0x l0.length c0x,.slice a0y d0.length c0y,.slice a0z u0.length c0z]:=by rw [hW1];exact (At.new _ _ _ (by simp [hX]) rfl)
    have b0:Below w.heap.size w W1:=by rw [hW1];exact qBl
    go_enter Tryz.func4,Tryz.ntmps4
    go_wp2_with fail
    go_ret
    exact ⟨rfl,by rw [hW1] at b0;exact b0⟩
  by_cases h0:szB l0.length d0.length u0.length 1048576<0
  · skip
    show Calls Tryz.prog 4 #[.agg #[.int .i64 st0,.slice a0x l0.length c0x,.slice a0y d0.length c0y,.slice a0z u0.length c0z],.string tx1] w _
    obtain ⟨X,hX⟩:∃ X,w.heap.size=X:=⟨_,rfl⟩
    obtain ⟨W1,hW1⟩:∃ W1,W1=w.alloc (.cells #[.int .i64 st0,.slice a0x l0.length c0x,.slice a0y d0.length c0y,.slice a0z u0.length c0z] 50):=⟨_,rfl⟩
    have G0:At W1 (X) [.int .i64 st0,.slice a0x l0.length c0x,.slice a0y d0.length c0y,.slice a0z u0.length c0z]:=by rw [hW1];exact (At.new _ _ _ (by simp [hX]) rfl)
    have b0:Below w.heap.size w W1:=by rw [hW1];exact qBl
    go_enter Tryz.func4,Tryz.ntmps4
    go_wp2_with fail
    rw [← hW1]
    clear hW1
    refine (szBook_any _ _ _ _ _ _ _ _ _ _ _ _ hl0 hd0 hu0 (by omega) (by omega)).mono ?_
    rintro e v0 ⟨rfl,c⟩
    replace G0:=G0.below c
    replace b0:=b0.trans (c.mono b0.size)
    clear c
    go_wp2_with fail
    go_ret
    exact ⟨rfl,b0⟩
  have hq0:=szB_le h0
  have hlb0:l0.length≤1048576∧d0.length≤1048576∧u0.length≤1048576:=by omega
  clear hq0
  obtain ⟨⟨⟨⟨rst,rl⟩,rd,ru⟩,rt⟩,hR⟩:∃ p,lineF ⟨⟨st0,l0⟩,d0,u0⟩ tx1=p:=⟨_,rfl⟩
  have KS:=Lib.hid (show ∀ (g0x g0y g0z n0x n0y n0z:Nat) (w':World),RdB w' (some ⟨g0x,0,none⟩) (some ⟨g0y,0,none⟩) (some ⟨g0z,0,none⟩) ⟨⟨st0,l0⟩,d0,u0⟩→Calls Tryz.prog 21 #[.agg #[.int .i64 st0,.slice (some ⟨g0x,0,none⟩) l0.length n0x,.slice (some ⟨g0y,0,none⟩) d0.length n0y,.slice (some ⟨g0z,0,none⟩) u0.length n0z],.string tx1] w' (fun e w''=>∃ (rax ray raz:Option Addr) (rcx rcy rcz:Nat),e=.returned (.tuple #[.agg #[.int .i64 rst,.slice rax rl.length rcx,.slice ray rd.length rcy,.slice raz ru.length rcz],.string rt])∧BkOwn w'' w'.heap.size (.slice rax rl.length rcx) (.slice ray rd.length rcy) (.slice raz ru.length rcz) ⟨⟨rst,rl⟩,rd,ru⟩∧Below w'.heap.size w' w'') from by
    intro g0x g0y g0z n0x n0y n0z w' hr0
    have:=sbookLine_any (some ⟨g0x,0,none⟩) (some ⟨g0y,0,none⟩) (some ⟨g0z,0,none⟩) n0x n0y n0z st0 l0 d0 u0 tx1 w' hlb0.1 hlb0.2.1 hlb0.2.2 (by omega) hr0
    rw [hR] at this
    refine this.mono ?_
    rintro e w'' ⟨v1,v2,v3,rfl,o,b⟩
    obtain ⟨a1,c1,a2,c2,a3,c3,rfl,rfl,rfl⟩:=o.forms
    exact ⟨a1,a2,a3,c1,c2,c3,rfl,o,b⟩)
  have KI:=Lib.hid (show ∀ (g0x g0y g0z n0x n0y n0z:Nat) (w':World),RdB w' (some ⟨g0x,0,none⟩) (some ⟨g0y,0,none⟩) (some ⟨g0z,0,none⟩) ⟨⟨st0,l0⟩,d0,u0⟩→Lby w'→Calls Tryz.prog 23 #[.agg #[.int .i64 st0,.slice (some ⟨g0x,0,none⟩) l0.length n0x,.slice (some ⟨g0y,0,none⟩) d0.length n0y,.slice (some ⟨g0z,0,none⟩) u0.length n0z],.string tx1] w' (fun e w''=>∃ (rax ray raz:Option Addr) (rcx rcy rcz:Nat),e=.returned (.tuple #[.agg #[.int .i64 rst,.slice rax rl.length rcx,.slice ray rd.length rcy,.slice raz ru.length rcz],.string rt])∧BkOwn w'' w'.heap.size (.slice rax rl.length rcx) (.slice ray rd.length rcy) (.slice raz ru.length rcz) ⟨⟨rst,rl⟩,rd,ru⟩∧Below w'.heap.size w' w'') from by
    intro g0x g0y g0z n0x n0y n0z w' hr0 hlw
    have:=bookLine_any (some ⟨g0x,0,none⟩) (some ⟨g0y,0,none⟩) (some ⟨g0z,0,none⟩) n0x n0y n0z st0 l0 d0 u0 tx1 w' hlb0.1 hlb0.2.1 hlb0.2.2 (by omega) hr0 hlw
    rw [hR] at this
    refine this.mono ?_
    rintro e w'' ⟨v1,v2,v3,rfl,o,b⟩
    obtain ⟨a1,c1,a2,c2,a3,c3,rfl,rfl,rfl⟩:=o.forms
    exact ⟨a1,a2,a3,c1,c2,c3,rfl,o,b⟩)
  have hrl:rl.length≤1048580∧rd.length≤1048580∧ru.length≤1048580:=by
    have:=lineF_len ⟨⟨st0,l0⟩,d0,u0⟩ tx1
    rw [hR] at this
    simp only at this
    omega
  clear hR
  show Calls Tryz.prog 4 #[.agg #[.int .i64 st0,.slice a0x l0.length c0x,.slice a0y d0.length c0y,.slice a0z u0.length c0z],.string tx1] w _
  obtain ⟨X,hX⟩:∃ X,w.heap.size=X:=⟨_,rfl⟩
  obtain ⟨W1,hW1⟩:∃ W1,W1=w.alloc (.cells #[.int .i64 st0,.slice a0x l0.length c0x,.slice a0y d0.length c0y,.slice a0z u0.length c0z] 50):=⟨_,rfl⟩
  have G0:At W1 (X) [.int .i64 st0,.slice a0x l0.length c0x,.slice a0y d0.length c0y,.slice a0z u0.length c0z]:=by rw [hW1];exact (At.new _ _ _ (by simp [hX]) rfl)
  have b0:Below w.heap.size w W1:=by rw [hW1];exact qBl
  go_enter Tryz.func4,Tryz.ntmps4
  go_wp2_with fail
  rw [← hW1]
  clear hW1
  refine (szBook_any _ _ _ _ _ _ _ _ _ _ _ _ hl0 hd0 hu0 (by omega) (by omega)).mono ?_
  rintro e v0 ⟨rfl,c⟩
  replace G0:=G0.below c
  replace b0:=b0.trans (c.mono b0.size)
  clear c
  obtain ⟨EVw,hEV⟩:∃ E,E=v0.heap.size:=⟨_,rfl⟩
  have hle:EVw≤v0.heap.size:=by omega
  obtain ⟨t0,t1,t2,t3,t4,-⟩:=id G0.facts4
  go_wp2_with fail
  refine (toBook_any _ _ _ _ _ _ st0 l0 d0 u0 _ hlb0.1 hlb0.2.1 hlb0.2.2 (hs0.below b0)).mono ?_
  rintro e w1 ⟨gy0x,gy0y,gy0z,rfl,oy0,c⟩
  clear t0 t1 t2 t3 t4
  replace hle:=Nat.le_trans hle c.size
  replace G0:=G0.below c
  replace b0:=b0.trans (c.mono b0.size)
  clear c
  go_wp2_with fail
  refine (KS.out _ _ _ _ _ _ _ oy0.kr).mono ?_
  rintro e w2 ⟨awx,awy,awz,cwx,cwy,cwz,rfl,ow,c⟩
  replace ow:=ow.mono hle
  replace hle:=Nat.le_trans hle c.size
  replace G0:=G0.below c
  replace oy0:=oy0.below c
  replace b0:=b0.trans (c.mono b0.size)
  clear c
  clear oy0
  go_upto_region 8 with fail
  obtain ⟨Bw,hY⟩:∃ Y,w2.heap.size=Y:=⟨_,rfl⟩
  obtain ⟨w3,hV⟩:∃ V,V=w2.alloc (.cells #[.int .i64 rst,.slice awx rl.length cwx,.slice awy rd.length cwy,.slice awz ru.length cwz] 28):=⟨_,rfl⟩
  have c:Below w2.heap.size w2 w3:=by rw [hV];exact qBl
  have Aw:At w3 Bw [.int .i64 rst,.slice awx rl.length cwx,.slice awy rd.length cwy,.slice awz ru.length cwz]:=by rw [hV];exact At.new _ _ _ hY.symm rfl
  have new:∀ k,bkBlk (.slice awx rl.length cwx) (.slice awy rd.length cwy) (.slice awz ru.length cwz) k→k≠Bw:=fun k hk=>by have:=(ow.blk hk).2;omega
  have hBw:EVw≤Bw:=by omega
  rw [hY,← hV]
  replace G0:=G0.below c
  replace ow:=ow.below c
  replace b0:=b0.trans (c.mono b0.size)
  clear c
  clear hV hY hle
  rw [hEV] at hBw ow
  clear hEV
  obtain ⟨E0,hE0⟩:∃ E,E=w3.heap.size:=⟨_,rfl⟩
  have uw0:∀ k,bkBlk (.slice awx rl.length cwx) (.slice awy rd.length cwy) (.slice awz ru.length cwz) k→k<E0:=fun k hk=>by rw [hE0];exact (ow.blk hk).2
  have vw0:Bw<E0:=by rw [hE0];exact Aw.lt
  have vg00:X<E0:=by rw [hE0];exact G0.lt
  have ub0:w.heap.size≤E0:=by rw [hE0];exact b0.size
  obtain ⟨t0,t1,t2,t3,t4,-⟩:=id G0.facts4
  go_wp2_with fail
  refine (toBook_any _ _ _ _ _ _ st0 l0 d0 u0 _ hlb0.1 hlb0.2.1 hlb0.2.2 (hs0.below b0)).mono ?_
  rintro e w4 ⟨gx0x,gx0y,gx0z,rfl,ox0,c⟩
  rw [← hE0] at ox0
  have es0:E0≤w4.heap.size:=by rw [hE0];exact c.size
  clear t0 t1 t2 t3 t4
  replace G0:=G0.below c
  replace ow:=ow.below c
  replace Aw:=Aw.below c
  replace b0:=b0.trans (c.mono b0.size)
  clear c
  go_upto_region 9 with fail
  obtain ⟨Bx0,hY⟩:∃ Y,w4.heap.size=Y:=⟨_,rfl⟩
  obtain ⟨w5,hV⟩:∃ V,V=w4.alloc (.cells #[.int .i64 st0,.slice (some ⟨gx0x,0,none⟩) l0.length l0.length,.slice (some ⟨gx0y,0,none⟩) d0.length d0.length,.slice (some ⟨gx0z,0,none⟩) u0.length u0.length] 28):=⟨_,rfl⟩
  have c:Below w4.heap.size w4 w5:=by rw [hV];exact qBl
  have Ax0:At w5 Bx0 [.int .i64 st0,.slice (some ⟨gx0x,0,none⟩) l0.length l0.length,.slice (some ⟨gx0y,0,none⟩) d0.length d0.length,.slice (some ⟨gx0z,0,none⟩) u0.length u0.length]:=by rw [hV];exact At.new _ _ _ hY.symm rfl
  rw [hY] at es0
  have nx0:∀ k,bkBlk (.slice (some ⟨gx0x,0,none⟩) l0.length l0.length) (.slice (some ⟨gx0y,0,none⟩) d0.length d0.length) (.slice (some ⟨gx0z,0,none⟩) u0.length u0.length) k→k<Bx0:=fun k hk=>by rw [← hY];exact (ox0.blk hk).2
  rw [hY,← hV]
  replace G0:=G0.below c
  replace ow:=ow.below c
  replace Aw:=Aw.below c
  replace ox0:=ox0.below c
  replace b0:=b0.trans (c.mono b0.size)
  clear c
  clear hV hY
  clear hE0
  obtain ⟨Eg,hEg⟩:∃ E,E=w5.heap.size:=⟨_,rfl⟩
  have uwg:∀ k,bkBlk (.slice awx rl.length cwx) (.slice awy rd.length cwy) (.slice awz ru.length cwz) k→k<Eg:=fun k hk=>by rw [hEg];exact (ow.blk hk).2
  have vwg:Bw<Eg:=by rw [hEg];exact Aw.lt
  have vgg0:X<Eg:=by rw [hEg];exact G0.lt
  have ubg:w.heap.size≤Eg:=by rw [hEg];exact b0.size
  have uxg0:∀ k,bkBlk (.slice (some ⟨gx0x,0,none⟩) l0.length l0.length) (.slice (some ⟨gx0y,0,none⟩) d0.length d0.length) (.slice (some ⟨gx0z,0,none⟩) u0.length u0.length) k→k<Eg:=fun k hk=>by rw [hEg];exact (ox0.blk hk).2
  have vxg0:Bx0<Eg:=by rw [hEg];exact Ax0.lt
  obtain ⟨EVg,hEV⟩:∃ E,E=w5.heap.size:=⟨_,rfl⟩
  have hle:EVg≤w5.heap.size:=by omega
  obtain ⟨t0,t1,t2,t3,t4,-⟩:=id Ax0.facts4
  go_wp2_with fail
  refine (KI.out _ _ _ _ _ _ _ ox0.kr (hlby.below b0)).mono ?_
  rintro e w6 ⟨agx,agy,agz,cgx,cgy,cgz,rfl,og,c⟩
  clear t0 t1 t2 t3 t4
  replace og:=og.mono hle
  replace hle:=Nat.le_trans hle c.size
  replace G0:=G0.below c
  replace ow:=ow.below c
  replace Aw:=Aw.below c
  replace ox0:=ox0.below c
  replace Ax0:=Ax0.below c
  replace b0:=b0.trans (c.mono b0.size)
  clear c
  go_upto_region 10 with fail
  obtain ⟨Bg,hY⟩:∃ Y,w6.heap.size=Y:=⟨_,rfl⟩
  obtain ⟨w7,hV⟩:∃ V,V=w6.alloc (.cells #[.int .i64 rst,.slice agx rl.length cgx,.slice agy rd.length cgy,.slice agz ru.length cgz] 28):=⟨_,rfl⟩
  have c:Below w6.heap.size w6 w7:=by rw [hV];exact qBl
  have Ag:At w7 Bg [.int .i64 rst,.slice agx rl.length cgx,.slice agy rd.length cgy,.slice agz ru.length cgz]:=by rw [hV];exact At.new _ _ _ hY.symm rfl
  have neg:∀ k,bkBlk (.slice agx rl.length cgx) (.slice agy rd.length cgy) (.slice agz ru.length cgz) k→k≠Bg:=fun k hk=>by have:=(og.blk hk).2;omega
  have hBg:EVg≤Bg:=by omega
  rw [hY,← hV]
  replace G0:=G0.below c
  replace ow:=ow.below c
  replace Aw:=Aw.below c
  replace ox0:=ox0.below c
  replace Ax0:=Ax0.below c
  replace og:=og.below c
  replace b0:=b0.trans (c.mono b0.size)
  clear c
  clear hV hY hle
  rw [hEV] at hBg og
  clear hEV
  rw [← hEg] at hBg og
  clear hEg
  obtain ⟨e0,e1,e2,e3,e4,-⟩:=id Ag.facts4
  obtain ⟨f0,f1,f2,f3,f4,-⟩:=id Aw.facts4
  go_wp2_with fail
  refine (eqBook_any _ _ _ _ _ _ _ _ _ _ _ _ rst rl rd ru _ hrl.1 hrl.2.1 hrl.2.2 og.kr ow.kr).mono ?_
  rintro e w8 ⟨rfl,c⟩
  clear e0 e1 e2 e3 e4 f0 f1 f2 f3 f4
  replace G0:=G0.below c
  replace ow:=ow.below c
  replace Aw:=Aw.below c
  replace ox0:=ox0.below c
  replace Ax0:=Ax0.below c
  replace og:=og.below c
  replace Ag:=Ag.below c
  replace b0:=b0.trans (c.mono b0.size)
  clear c
  obtain ⟨t0,t1,t2,t3,t4,-⟩:=id Ax0.facts4
  obtain ⟨s0,s1,s2,s3,s4,-⟩:=id G0.facts4
  have hr:=hs0.below b0
  have hq:=ox0.kr
  go_upto_region 12 with fail
  go_cut [52] (fun p wx=>p=.bool false∧Below w8.heap.size w8 wx)
  case first =>
    go_region_held3 (fun w'=>Below w8.heap.size w8 w'∧∀ b o,b<w8.heap.size→w'.cell? ⟨b,o,none⟩=w8.cell? ⟨b,o,none⟩) (exact kept qHb)
      (first
      | (go_at_call 22;refine (toBook_any _ _ _ _ _ _ st0 l0 d0 u0 _ hlb0.1 hlb0.2.1 hlb0.2.2 (hr.below qHb)).mono ?_;rintro e wy ⟨gyx,gyy,gyz,rfl,oy,c⟩;have By:=kept_next (V:=w8) qHb c;have zy:=By.size;clear c)
      | (go_at_call 24;refine (eqBook_any _ _ _ _ _ _ _ _ _ _ _ _ st0 l0 d0 u0 _ (by omega) (by omega) (by omega) (hq.below qHb) oy.kr).mono ?_;rintro e wz ⟨rfl,c⟩;have Bz:=kept_next (V:=w8) qHb c;have zz:=Bz.size;clear c))
    all_goals (go_wp2_with fail;go_meet)
    all_goals exact ⟨rfl,qHb⟩
  case rest =>
    obtain ⟨rfl,bb⟩:=hcut
    clear t0 t1 t2 t3 t4 s0 s1 s2 s3 s4
    clear hr hq
    replace G0:=G0.below bb
    replace ow:=ow.below bb
    replace Aw:=Aw.below bb
    replace ox0:=ox0.below bb
    replace Ax0:=Ax0.below bb
    replace og:=og.below bb
    replace Ag:=Ag.below bb
    replace b0:=b0.trans (bb.mono b0.size)
    clear bb
    obtain ⟨t0,t1,t2,t3,t4,-⟩:=id Ax0.facts4
    have zE:E0≤wc.heap.size:=by have:=Ax0.lt;omega
    go_wp2_with fail
    refine (markBook_any E0 _ _ _ _ _ _ st0 l0 d0 u0 (1) _ (by omega) (by omega) (by omega) (by omega) (by omega) (by omega) ox0).mono ?_
    rintro e w9 ⟨rfl,om,hw⟩
    clear t0 t1 t2 t3 t4
    clear zE
    replace G0:=G0.block (hw.block _ G0.lt fun hj=>by have:=(ox0.blk hj).1;omega)
    replace Aw:=Aw.block (hw.block _ Aw.lt fun hj=>by have:=(ox0.blk hj).1;omega)
    replace ow:=ow.wr hw (fun j hj h=>by have:=(ox0.blk h).1;have:=uw0 j hj;omega)
    replace Ag:=Ag.block (hw.block _ Ag.lt fun hj=>by have:=uxg0 _ hj;omega)
    replace og:=og.wr hw (fun j hj h=>by have:=uxg0 _ h;have:=(og.blk hj).1;omega)
    replace b0:=b0.trans (hw.below (B:=w.heap.size) b0.size fun j hj=>by have:=(ox0.blk hj).1;omega)
    clear hw om ox0 Ax0
    have hkk:0≤1+5*(l0.length:Int)+7*(d0.length:Int)+7*(u0.length:Int):=by omega
    obtain ⟨e0,e1,e2,e3,e4,-⟩:=id Ag.facts4
    obtain ⟨f0,f1,f2,f3,f4,-⟩:=id Aw.facts4
    go_wp2_with fail
    refine (eqBook_any _ _ _ _ _ _ _ _ _ _ _ _ rst rl rd ru _ hrl.1 hrl.2.1 hrl.2.2 og.kr ow.kr).mono ?_
    rintro e w10 ⟨rfl,c⟩
    clear e0 e1 e2 e3 e4 f0 f1 f2 f3 f4
    replace G0:=G0.below c
    replace ow:=ow.below c
    replace Aw:=Aw.below c
    replace og:=og.below c
    replace Ag:=Ag.below c
    replace b0:=b0.trans (c.mono b0.size)
    clear c
    clear hkk
    obtain ⟨t0,t1,t2,t3,t4,-⟩:=id Ag.facts4
    go_wp2_with fail
    have zE:Eg≤w10.heap.size:=by have:=Ag.lt;omega
    refine (markBook_any Eg _ _ _ _ _ _ rst rl rd ru (1) _ (by omega) (by omega) (by omega) (by omega) (by omega) (by omega) og).mono ?_
    rintro e w11 ⟨rfl,om,hw⟩
    clear t0 t1 t2 t3 t4
    clear zE
    replace G0:=G0.block (hw.block _ G0.lt fun hj=>by have:=(og.blk hj).1;omega)
    replace Aw:=Aw.block (hw.block _ Aw.lt fun hj=>by have:=(og.blk hj).1;omega)
    replace ow:=ow.wr hw (fun j hj h=>by have:=(og.blk h).1;have:=uwg j hj;omega)
    replace Ag:=Ag.block (hw.block _ Ag.lt fun hj=>by exact neg _ hj rfl)
    replace b0:=b0.trans (hw.below (B:=w.heap.size) b0.size fun j hj=>by have:=(og.blk hj).1;omega)
    replace og:=om
    clear hw om
    have hm1:0≤1+5*(rl.length:Int)+7*(rd.length:Int)+7*(ru.length:Int):=by omega
    have hm2:((1+5*(rl.length:Int)+7*(rd.length:Int)+7*(ru.length:Int):Int) != (1+5*(rl.length:Int)+7*(rd.length:Int)+7*(ru.length:Int):Int))=false:=by simp
    obtain ⟨t0,t1,t2,t3,t4,-⟩:=id Ag.facts4
    go_wp2_with fail
    refine (heldBook_any _ _ _ rl.length rd.length ru.length _ _ _ rst 1 ⟨⟨rst,rl⟩,rd,ru⟩ _ rfl rfl rfl hrl.1 hrl.2.1 hrl.2.2 (by omega) (by omega) og.kr).mono ?_
    rintro e w12 ⟨rfl,c⟩
    clear t0 t1 t2 t3 t4
    replace G0:=G0.below c
    replace ow:=ow.below c
    replace Aw:=Aw.below c
    replace og:=og.below c
    replace Ag:=Ag.below c
    replace b0:=b0.trans (c.mono b0.size)
    clear c
    obtain ⟨EVh,hEV⟩:∃ E,E=w12.heap.size:=⟨_,rfl⟩
    have hle:EVh≤w12.heap.size:=by omega
    obtain ⟨t0,t1,t2,t3,t4,-⟩:=id G0.facts4
    go_wp2_with fail
    refine (toBook_any _ _ _ _ _ _ st0 l0 d0 u0 _ hlb0.1 hlb0.2.1 hlb0.2.2 (hs0.below b0)).mono ?_
    rintro e w13 ⟨gy0x,gy0y,gy0z,rfl,oy0,c⟩
    clear t0 t1 t2 t3 t4
    replace hle:=Nat.le_trans hle c.size
    replace G0:=G0.below c
    replace ow:=ow.below c
    replace Aw:=Aw.below c
    replace og:=og.below c
    replace Ag:=Ag.below c
    replace b0:=b0.trans (c.mono b0.size)
    clear c
    go_wp2_with fail
    refine (KI.out _ _ _ _ _ _ _ oy0.kr (hlby.below b0)).mono ?_
    rintro e w14 ⟨ahx,ahy,ahz,chx,chy,chz,rfl,oh,c⟩
    replace oh:=oh.mono hle
    replace hle:=Nat.le_trans hle c.size
    replace G0:=G0.below c
    replace ow:=ow.below c
    replace Aw:=Aw.below c
    replace og:=og.below c
    replace Ag:=Ag.below c
    replace oy0:=oy0.below c
    replace b0:=b0.trans (c.mono b0.size)
    clear c
    clear oy0
    go_upto_region 27 with fail
    obtain ⟨Bh,hY⟩:∃ Y,w14.heap.size=Y:=⟨_,rfl⟩
    obtain ⟨w15,hV⟩:∃ V,V=w14.alloc (.cells #[.int .i64 rst,.slice ahx rl.length chx,.slice ahy rd.length chy,.slice ahz ru.length chz] 28):=⟨_,rfl⟩
    have c:Below w14.heap.size w14 w15:=by rw [hV];exact qBl
    have Ah:At w15 Bh [.int .i64 rst,.slice ahx rl.length chx,.slice ahy rd.length chy,.slice ahz ru.length chz]:=by rw [hV];exact At.new _ _ _ hY.symm rfl
    have neh:∀ k,bkBlk (.slice ahx rl.length chx) (.slice ahy rd.length chy) (.slice ahz ru.length chz) k→k≠Bh:=fun k hk=>by have:=(oh.blk hk).2;omega
    have hBh:EVh≤Bh:=by omega
    rw [hY,← hV]
    replace G0:=G0.below c
    replace ow:=ow.below c
    replace Aw:=Aw.below c
    replace og:=og.below c
    replace Ag:=Ag.below c
    replace oh:=oh.below c
    replace b0:=b0.trans (c.mono b0.size)
    clear c
    clear hV hY hle
    rw [hEV] at hBh oh
    clear hEV
    obtain ⟨e0,e1,e2,e3,e4,-⟩:=id Ah.facts4
    obtain ⟨f0,f1,f2,f3,f4,-⟩:=id Aw.facts4
    go_wp2_with fail
    refine (eqBook_any _ _ _ _ _ _ _ _ _ _ _ _ rst rl rd ru _ hrl.1 hrl.2.1 hrl.2.2 oh.kr ow.kr).mono ?_
    rintro e w16 ⟨rfl,c⟩
    clear e0 e1 e2 e3 e4 f0 f1 f2 f3 f4
    replace G0:=G0.below c
    replace ow:=ow.below c
    replace Aw:=Aw.below c
    replace og:=og.below c
    replace Ag:=Ag.below c
    replace oh:=oh.below c
    replace Ah:=Ah.below c
    replace b0:=b0.trans (c.mono b0.size)
    clear c
    obtain ⟨t0,t1,t2,t3,t4,-⟩:=id Ag.facts4
    go_wp2_with fail
    refine (heldBook_any _ _ _ rl.length rd.length ru.length _ _ _ rst 1 ⟨⟨rst,rl⟩,rd,ru⟩ _ rfl rfl rfl hrl.1 hrl.2.1 hrl.2.2 (by omega) (by omega) og.kr).mono ?_
    rintro e w17 ⟨rfl,c⟩
    clear t0 t1 t2 t3 t4
    replace G0:=G0.below c
    replace ow:=ow.below c
    replace Aw:=Aw.below c
    replace og:=og.below c
    replace Ag:=Ag.below c
    replace oh:=oh.below c
    replace Ah:=Ah.below c
    replace b0:=b0.trans (c.mono b0.size)
    clear c
    go_wp2_with fail
    go_ret
    exact ⟨rfl,b0⟩
end Go.Proofs.YthfoloefkfadlaaGreatDoor
