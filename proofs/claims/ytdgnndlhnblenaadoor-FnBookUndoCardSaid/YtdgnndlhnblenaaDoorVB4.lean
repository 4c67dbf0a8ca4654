/- The law FnBookUndo, walked: what is undone can be done again (written by wip/bin/gen_vb4.py). -/
import Derived.Test.YtdgnndlhnblenaaDoorVB3
import Derived.Test.YtdgnndlhnblenaaDoorK8
set_option linter.unusedSimpArgs false
set_option linter.unusedVariables false
namespace Go.Proofs.YtdgnndlhnblenaaDoor
open Go Go.RowKit Go.Sort

set_option maxRecDepth 100000 in
set_option maxHeartbeats 4000000 in
theorem lawBookUndo (a : Option Addr) (n c : Nat) (w : World) (hc : n ≤ c) (hn : n ≤ 9223372036854775807) (hb : n ≤ 1048576 → Bytes w a n) (hpw : Pow w) :
    Calls Tryd.prog 10 #[.slice a n c] w fun e w' => e = .returned (.bool true) ∧ Below w.heap.size w w' := by
  by_cases hbig : 1048576 < n
  · go_enter Tryd.func10, Tryd.ntmps10
    go_wp2_with fail
    go_ret
    exact ⟨rfl, (by repeat (first | with_reducible assumption | exact Below.refl _ _ | refine below_drewN ?_ _ | refine Below.drew ?_ | refine Below.alloc ?_ (by first | omega | (simp; done) | (simp; omega)) _ | refine Below.setCell ?_ (by first | omega | (simp; done) | (simp; omega)) _))⟩
  replace hb := hb (by omega)
  go_enter Tryd.func10, Tryd.ntmps10
  go_wp2_with fail
  refine (drawBookUndo_any a n c w hc (by omega) hb).mono ?_
  rintro e w1 ⟨⟨⟨st, l⟩, d, u⟩, v1, v2, v3, rfl, o, hsz, bt⟩
  obtain ⟨a1, c1, a2, c2, a3, c3, rfl, rfl, rfl⟩ := o.forms
  simp only at o ⊢
  have pw := hpw.below bt
  have hs := o.kr
  have hl : l.length ≤ 10 := hsz.1
  have hdu : d.length + u.length ≤ 41 := hsz.2.1
  clear o hb hpw hn hc hsz
  obtain ⟨⟨⟨⟨rst, rl⟩, rd, ru⟩, ok⟩, hp⟩ : ∃ p, bkUndo ⟨⟨st, l⟩, d, u⟩ = p := ⟨_, rfl⟩
  have hlr : rl.length ≤ 9 ∧ rd.length ≤ 41 ∧ ru.length ≤ 41 := by have := bkUndo_len ⟨⟨st, l⟩, d, u⟩; rw [hp] at this; exact this
  have KI := Lib.hid (show ∀ (w' : World), RdB w' a1 a2 a3 ⟨⟨st, l⟩, d, u⟩ → Calls Tryd.prog 38 #[.agg #[.int .i64 st, .slice a1 l.length c1, .slice a2 d.length c2, .slice a3 u.length c3]] w' (BkOut (⟨⟨rst, rl⟩, rd, ru⟩, ok) w') from fun w' h => by
    have := bookUndo_any a1 a2 a3 c1 c2 c3 st l d u w' (by omega) (by omega) (by omega) h
    rw [hp] at this
    exact this)
  have KS := Lib.hid (show ∀ (w' : World), RdB w' a1 a2 a3 ⟨⟨st, l⟩, d, u⟩ → Calls Tryd.prog 43 #[.agg #[.int .i64 st, .slice a1 l.length c1, .slice a2 d.length c2, .slice a3 u.length c3]] w' (BkOut (⟨⟨rst, rl⟩, rd, ru⟩, ok) w') from fun w' h => by
    have := sbookUndo_any a1 a2 a3 c1 c2 c3 st l d u w' (by omega) (by omega) (by omega) h
    rw [hp] at this
    exact this)
  have HP := Lib.hid hp
  clear hp
  go_upto_region 4 with fail
  obtain ⟨BB0, hY⟩ : ∃ Y, w1.heap.size = Y := ⟨_, rfl⟩
  obtain ⟨w2, hV⟩ : ∃ V, V = w1.alloc (.cells #[.int .i64 st, .slice a1 l.length c1, .slice a2 d.length c2, .slice a3 u.length c3] 46) := ⟨_, rfl⟩
  have c : Below w1.heap.size w1 w2 := by rw [hV]; exact (by repeat (first | with_reducible assumption | exact Below.refl _ _ | refine below_drewN ?_ _ | refine Below.drew ?_ | refine Below.alloc ?_ (by first | omega | (simp; done) | (simp; omega)) _ | refine Below.setCell ?_ (by first | omega | (simp; done) | (simp; omega)) _))
  have B0 : At w2 BB0 [.int .i64 st, .slice a1 l.length c1, .slice a2 d.length c2, .slice a3 u.length c3] := by rw [hV]; exact At.new _ _ _ hY.symm rfl
  rw [hY, ← hV]
  clear hV hY
  replace pw := pw.below c
  replace hs := hs.below c
  replace bt := bt.trans (c.mono bt.size)
  clear c
  obtain ⟨tB00, tB01, tB02, tB03, tB04, tB05⟩ := id B0.facts4
  go_wp2_with fail
  refine (KI.out _ hs).mono ?_
  rintro e w3 ⟨v1T, v2T, v3T, rfl, oT, c⟩
  clear tB00 tB01 tB02 tB03 tB04 tB05
  obtain ⟨xT1, yT1, xT2, yT2, xT3, yT3, rfl, rfl, rfl⟩ := oT.forms
  simp only at oT ⊢
  replace pw := pw.below c
  replace hs := hs.below c
  replace B0 := B0.below c
  replace bt := bt.trans (c.mono bt.size)
  clear c
  go_upto_region 5 with fail
  obtain ⟨BT0, hY⟩ : ∃ Y, w3.heap.size = Y := ⟨_, rfl⟩
  obtain ⟨w4, hV⟩ : ∃ V, V = w3.alloc (.cells #[.int .i64 rst, .slice xT1 rl.length yT1, .slice xT2 rd.length yT2, .slice xT3 ru.length yT3] 46) := ⟨_, rfl⟩
  have c : Below w3.heap.size w3 w4 := by rw [hV]; exact (by repeat (first | with_reducible assumption | exact Below.refl _ _ | refine below_drewN ?_ _ | refine Below.drew ?_ | refine Below.alloc ?_ (by first | omega | (simp; done) | (simp; omega)) _ | refine Below.setCell ?_ (by first | omega | (simp; done) | (simp; omega)) _))
  have T0 : At w4 BT0 [.int .i64 rst, .slice xT1 rl.length yT1, .slice xT2 rd.length yT2, .slice xT3 ru.length yT3] := by rw [hV]; exact At.new _ _ _ hY.symm rfl
  rw [hY, ← hV]
  clear hV hY
  replace pw := pw.below c
  replace hs := hs.below c
  replace B0 := B0.below c
  replace oT := oT.below c
  replace bt := bt.trans (c.mono bt.size)
  clear c
  obtain ⟨tB00, tB01, tB02, tB03, tB04, tB05⟩ := id B0.facts4
  go_wp2_with fail
  refine (KS.out _ hs).mono ?_
  rintro e w5 ⟨v1U, v2U, v3U, rfl, oU, c⟩
  clear tB00 tB01 tB02 tB03 tB04 tB05
  obtain ⟨xU1, yU1, xU2, yU2, xU3, yU3, rfl, rfl, rfl⟩ := oU.forms
  simp only at oU ⊢
  replace pw := pw.below c
  replace hs := hs.below c
  replace B0 := B0.below c
  replace oT := oT.below c
  replace T0 := T0.below c
  replace bt := bt.trans (c.mono bt.size)
  clear c
  go_upto_region 6 with fail
  obtain ⟨BU0, hY⟩ : ∃ Y, w5.heap.size = Y := ⟨_, rfl⟩
  obtain ⟨w6, hV⟩ : ∃ V, V = w5.alloc (.cells #[.int .i64 rst, .slice xU1 rl.length yU1, .slice xU2 rd.length yU2, .slice xU3 ru.length yU3] 46) := ⟨_, rfl⟩
  have c : Below w5.heap.size w5 w6 := by rw [hV]; exact (by repeat (first | with_reducible assumption | exact Below.refl _ _ | refine below_drewN ?_ _ | refine Below.drew ?_ | refine Below.alloc ?_ (by first | omega | (simp; done) | (simp; omega)) _ | refine Below.setCell ?_ (by first | omega | (simp; done) | (simp; omega)) _))
  have U0 : At w6 BU0 [.int .i64 rst, .slice xU1 rl.length yU1, .slice xU2 rd.length yU2, .slice xU3 ru.length yU3] := by rw [hV]; exact At.new _ _ _ hY.symm rfl
  rw [hY, ← hV]
  clear hV hY
  replace pw := pw.below c
  replace hs := hs.below c
  replace B0 := B0.below c
  replace oT := oT.below c
  replace T0 := T0.below c
  replace oU := oU.below c
  replace bt := bt.trans (c.mono bt.size)
  clear c
  have hok : (ok != ok) = false := by simp
  obtain ⟨tT00, tT01, tT02, tT03, tT04, tT05⟩ := id T0.facts4
  obtain ⟨tU00, tU01, tU02, tU03, tU04, tU05⟩ := id U0.facts4
  go_wp2_with fail
  refine (sameBook_any _ _ _ _ _ _ _ _ _ _ _ _ rst rst rl rl rd ru rd ru _ (by omega) (by omega) (by omega) (by omega) (by omega) (by omega) oT.kr oU.kr).mono ?_
  rintro e w7 ⟨rfl, c⟩
  clear tT00 tT01 tT02 tT03 tT04 tT05 tU00 tU01 tU02 tU03 tU04 tU05
  rw [dec_yes rfl]
  replace pw := pw.below c
  replace hs := hs.below c
  replace B0 := B0.below c
  replace oT := oT.below c
  replace T0 := T0.below c
  replace oU := oU.below c
  replace U0 := U0.below c
  replace bt := bt.trans (c.mono bt.size)
  clear c
  clear oU U0
  cases ok with
  | false =>
    have hF : bkOk ⟨⟨st, l⟩, d, u⟩ = true → (⟨⟨rst, rl⟩, rd, ru⟩ : Bk) = ⟨⟨st, l⟩, d, u⟩ ∧ d.length = 0 := fun h => by
      have := bkUndoNo (by rw [HP.out]) h
      rw [HP.out] at this; exact this
    have hG : bkOk ⟨⟨st, l⟩, d, u⟩ = false → (⟨⟨rst, rl⟩, rd, ru⟩ : Bk) = zeroBk := fun h => by
      have := bkUndoBad h
      rw [HP.out] at this; exact this
    obtain ⟨E, hE⟩ : ∃ e, decide ((⟨⟨rst, rl⟩, rd, ru⟩ : Bk) = ⟨⟨st, l⟩, d, u⟩) = e := ⟨_, rfl⟩
    have hU : E = true → d.length = 0 := fun h => by
      rw [h] at hE
      have he := of_decide_eq_true hE
      cases hb : bkOk ⟨⟨st, l⟩, d, u⟩
      · rw [hG hb] at he
        have := congrArg (fun q : Bk => q.done.length) he
        simp only [zeroBk, List.length_nil] at this
        exact this.symm
      · exact (hF hb).2
    have hV : E = false → bkOk ⟨⟨st, l⟩, d, u⟩ = false := fun h => by
      rw [h] at hE
      cases hb : bkOk ⟨⟨st, l⟩, d, u⟩
      · rfl
      · rw [dec_yes (hF hb).1] at hE; cases hE
    clear hF hG HP
    obtain ⟨tT00, tT01, tT02, tT03, tT04, tT05⟩ := id T0.facts4
    obtain ⟨tB00, tB01, tB02, tB03, tB04, tB05⟩ := id B0.facts4
    go_wp2_with fail
    refine (sameBook_any _ _ _ _ _ _ _ _ _ _ _ _ rst st rl l rd ru d u _ (by omega) (by omega) (by omega) (by omega) (by omega) (by omega) oT.kr hs).mono ?_
    rintro e w8 ⟨rfl, c⟩
    clear tT00 tT01 tT02 tT03 tT04 tT05 tB00 tB01 tB02 tB03 tB04 tB05
    rw [hE]
    replace pw := pw.below c
    replace hs := hs.below c
    replace B0 := B0.below c
    replace oT := oT.below c
    replace T0 := T0.below c
    replace bt := bt.trans (c.mono bt.size)
    clear c
    clear hE
    cases E with
    | true =>
      have hu0 : ((d.length : Int) == 0) = true := by simp [hU rfl]
      clear hU hV
      obtain ⟨tB00, tB01, tB02, tB03, tB04, tB05⟩ := id B0.facts4
      go_wp2_with fail
      refine (alive_any _ pw).mono ?_
      rintro e w9 ⟨rfl, c⟩
      clear tB00 tB01 tB02 tB03 tB04 tB05
      replace pw := pw.below c
      replace hs := hs.below c
      replace B0 := B0.below c
      replace oT := oT.below c
      replace T0 := T0.below c
      replace bt := bt.trans (c.mono bt.size)
      clear c
      go_wp2_with fail
      go_ret
      exact ⟨rfl, bt⟩
    | false =>
      have hv := hV rfl
      clear hU hV
      obtain ⟨tB00, tB01, tB02, tB03, tB04, tB05⟩ := id B0.facts4
      go_wp2_with fail
      refine (bookValid_any a1 a2 a3 c1 c2 c3 st l d u _ (by omega) (by omega) (by omega) hs).mono ?_
      rintro e w10 ⟨rfl, c⟩
      clear tB00 tB01 tB02 tB03 tB04 tB05
      rw [hv]
      replace pw := pw.below c
      replace hs := hs.below c
      replace B0 := B0.below c
      replace oT := oT.below c
      replace T0 := T0.below c
      replace bt := bt.trans (c.mono bt.size)
      clear c
      clear hv
      go_wp2_with fail
      refine (alive_any _ pw).mono ?_
      rintro e w11 ⟨rfl, c⟩
      replace pw := pw.below c
      replace hs := hs.below c
      replace B0 := B0.below c
      replace oT := oT.below c
      replace T0 := T0.below c
      replace bt := bt.trans (c.mono bt.size)
      clear c
      go_wp2_with fail
      go_ret
      exact ⟨rfl, bt⟩
  | true =>
    obtain ⟨q1, q2⟩ := bkUndoYes (b := ⟨⟨st, l⟩, d, u⟩) (by rw [HP.out])
    have q3 := undo_redo q1 q2
    obtain ⟨q4, q5, q6⟩ := undo_can q1 q2
    rw [HP.out] at q3 q4 q5 q6
    simp only at q2 q3 q4 q5 q6
    obtain ⟨m, hm⟩ : ∃ m, d.length = m + 1 := ⟨d.length - 1, by omega⟩
    have hm1 : d.length - 1 = m := by omega
    rw [hm1] at q5 q6
    obtain ⟨⟨kd, ix, ⟨g1, g2, g3, g4, g5⟩⟩, hD⟩ : ∃ p, nth d m = p := ⟨_, rfl⟩
    obtain ⟨⟨nst, nl⟩, hN⟩ : ∃ p, bkNow ⟨⟨rst, rl⟩, rd, ru⟩ = p := ⟨_, rfl⟩
    obtain ⟨⟨mst, ml⟩, hM⟩ : ∃ p, bkNow ⟨⟨st, l⟩, d, u⟩ = p := ⟨_, rfl⟩
    have hnl : nl.length ≤ 9 := by have := bkNow_len ⟨⟨rst, rl⟩, rd, ru⟩; rw [hN] at this; exact this
    have hml : ml.length ≤ 9 := by have := bkNow_len ⟨⟨st, l⟩, d, u⟩; rw [hM] at this; exact this
    rw [hN, hD] at q5 q6
    rw [hM] at q6
    obtain ⟨r1, r2, -, -⟩ := do_back q5
    obtain ⟨⟨⟨zk, zi, ⟨z1, z2, z3, z4, z5⟩⟩, cb⟩, hq⟩ : ∃ p, ddBack ⟨nst, nl⟩ ⟨kd, ix, ⟨g1, g2, g3, g4, g5⟩⟩ = p := ⟨_, rfl⟩
    rw [hq] at r1 r2
    rw [← q6] at r2
    simp only at r1 r2
    subst r1
    have KR := Lib.hid (show ∀ (w' : World), RdB w' xT1 xT2 xT3 ⟨⟨rst, rl⟩, rd, ru⟩ → Calls Tryd.prog 35 #[.agg #[.int .i64 rst, .slice xT1 rl.length yT1, .slice xT2 rd.length yT2, .slice xT3 ru.length yT3]] w' (BkOut (⟨⟨st, l⟩, d, u⟩, true) w') from fun w' h => by
      have := bookRedo_any xT1 xT2 xT3 yT1 yT2 yT3 rst rl rd ru w' (by omega) (by omega) (by omega) h
      rw [q3] at this
      exact this)
    have KN := Lib.hid (show ∀ (w' : World), RdB w' xT1 xT2 xT3 ⟨⟨rst, rl⟩, rd, ru⟩ → Calls Tryd.prog 32 #[.agg #[.int .i64 rst, .slice xT1 rl.length yT1, .slice xT2 rd.length yT2, .slice xT3 ru.length yT3]] w' (SvRet ⟨nst, nl⟩ w') from fun w' h => by
      have := bookNow_any xT1 xT2 xT3 yT1 yT2 yT3 rst rl rd ru w' (by omega) (by omega) (by omega) h
      rw [hN] at this
      exact this)
    have KM := Lib.hid (show ∀ (w' : World), RdB w' a1 a2 a3 ⟨⟨st, l⟩, d, u⟩ → Calls Tryd.prog 32 #[.agg #[.int .i64 st, .slice a1 l.length c1, .slice a2 d.length c2, .slice a3 u.length c3]] w' (SvRet ⟨mst, ml⟩ w') from fun w' h => by
      have := bookNow_any a1 a2 a3 c1 c2 c3 st l d u w' (by omega) (by omega) (by omega) h
      rw [hM] at this
      exact this)
    have KB := Lib.hid (show ∀ (aN : Option Addr) (cN : Nat) (w' : World), Legs w' aN nl → Calls Tryd.prog 21 #[.agg #[.int .i64 nst, .slice aN nl.length cN], .agg #[.int .i64 kd, .int .i64 ix, .int .i64 g1, .int .i64 g2, .int .i64 g3, .int .i64 g4, .int .i64 g5]] w' (DdOut (⟨zk, zi, ⟨z1, z2, z3, z4, z5⟩⟩, true) w') from fun aN cN w' h => by
      have := deedBack_any aN cN nst nl ⟨kd, ix, ⟨g1, g2, g3, g4, g5⟩⟩ w' (by omega) h
      rw [hq] at this
      exact this)
    have KD := Lib.hid (show ∀ (aN : Option Addr) (cN : Nat) (w' : World), Legs w' aN ml → Calls Tryd.prog 16 #[.agg #[.int .i64 mst, .slice aN ml.length cN], .agg #[.int .i64 zk, .int .i64 zi, .int .i64 z1, .int .i64 z2, .int .i64 z3, .int .i64 z4, .int .i64 z5]] w' (SvOut (⟨nst, nl⟩, true) w') from fun aN cN w' h => by
      have := deedDo_any aN cN mst ml ⟨zk, zi, ⟨z1, z2, z3, z4, z5⟩⟩ w' (by omega) h
      rw [r2] at this
      exact this)
    have HD := Lib.hid hD
    have HM := Lib.hid hm
    clear HP q1 q2 q3 q5 q6 r2 hN hM hq hD hm1 hm
    obtain ⟨tT00, tT01, tT02, tT03, tT04, tT05⟩ := id T0.facts4
    go_wp2_with fail
    refine (KR.out _ oT.kr).mono ?_
    rintro e w12 ⟨v1Y, v2Y, v3Y, rfl, oY, c⟩
    clear tT00 tT01 tT02 tT03 tT04 tT05
    obtain ⟨xY1, yY1, xY2, yY2, xY3, yY3, rfl, rfl, rfl⟩ := oY.forms
    simp only at oY ⊢
    replace pw := pw.below c
    replace hs := hs.below c
    replace B0 := B0.below c
    replace oT := oT.below c
    replace T0 := T0.below c
    replace bt := bt.trans (c.mono bt.size)
    clear c
    go_upto_region 11 with fail
    obtain ⟨BY0, hY⟩ : ∃ Y, w12.heap.size = Y := ⟨_, rfl⟩
    obtain ⟨w13, hV⟩ : ∃ V, V = w12.alloc (.cells #[.int .i64 st, .slice xY1 l.length yY1, .slice xY2 d.length yY2, .slice xY3 u.length yY3] 46) := ⟨_, rfl⟩
    have c : Below w12.heap.size w12 w13 := by rw [hV]; exact (by repeat (first | with_reducible assumption | exact Below.refl _ _ | refine below_drewN ?_ _ | refine Below.drew ?_ | refine Below.alloc ?_ (by first | omega | (simp; done) | (simp; omega)) _ | refine Below.setCell ?_ (by first | omega | (simp; done) | (simp; omega)) _))
    have Y0 : At w13 BY0 [.int .i64 st, .slice xY1 l.length yY1, .slice xY2 d.length yY2, .slice xY3 u.length yY3] := by rw [hV]; exact At.new _ _ _ hY.symm rfl
    rw [hY, ← hV]
    clear hV hY
    replace pw := pw.below c
    replace hs := hs.below c
    replace B0 := B0.below c
    replace oT := oT.below c
    replace T0 := T0.below c
    replace oY := oY.below c
    replace bt := bt.trans (c.mono bt.size)
    clear c
    obtain ⟨be, off, rfl, hbe, m0, m1, m2, m3, m4, m5, m6⟩ := Dds.at hs.d (k := m) (show m < d.length by have := HM.out; omega)
    rw [HD.out] at m0 m1 m2 m3 m4 m5 m6
    simp only at m0 m1 m2 m3 m4 m5 m6
    have hi1 : IntKind.i64.wrap ((d.length : Int) - 1) = (m : Int) := by have := HM.out; rw [show (d.length : Int) - 1 = (m : Int) by omega]; exact IntWalk.i64_in _ (by omega)
    have hi2 : (m : Int) < (d.length : Int) := by have := HM.out; omega
    have hi3 : m < d.length := by have := HM.out; omega
    obtain ⟨tT00, tT01, tT02, tT03, tT04, tT05⟩ := id T0.facts4
    obtain ⟨tB00, tB01, tB02, tB03, tB04, tB05⟩ := id B0.facts4
    have hT := oT.kr
    go_cut [10, 11] (fun p10 p11 wx => p11 = .bool true ∧ Boxed w13 [.int .i64 zk, .int .i64 zi, .int .i64 z1, .int .i64 z2, .int .i64 z3, .int .i64 z4, .int .i64 z5] p10 wx)
    case first =>
      go_region_held3 (fun w' => Below w13.heap.size w13 w' ∧ ∀ b o, b < w13.heap.size → w'.cell? ⟨b, o, none⟩ = w13.cell? ⟨b, o, none⟩) (exact kept (by repeat (first | with_reducible assumption | with_reducible exact Below.refl _ _ | with_reducible refine Below.setCell ?_ (by first | omega | (simp; done) | (simp; omega)) _ | with_reducible refine Below.alloc ?_ (by first | omega | (simp; done) | (simp; omega)) _ | with_reducible refine Below.drew ?_)))
        (first
        | (go_at_call 21; refine (KB.out _ _ _ (by first | exact oy.kr | exact (oy.alloc _).kr)).mono ?_; rintro e wz ⟨rfl, cc⟩; simp only [Dd.val]; have Bz := kept_next (V := w13) (by repeat (first | with_reducible assumption | with_reducible exact Below.refl _ _ | with_reducible refine Below.setCell ?_ (by first | omega | (simp; done) | (simp; omega)) _ | with_reducible refine Below.alloc ?_ (by first | omega | (simp; done) | (simp; omega)) _ | with_reducible refine Below.drew ?_)) cc; have zz := Bz.size; (first | have hA0 := A0.lt | skip); (first | have A0 := A0.below cc | have A0 := A0.drew.below cc | have A0 := At.born cc | have A0 := At.bornD cc | skip); (first | obtain ⟨jz0, jz1, jz2, jz3, jz4, jz5, jz6, jz7, jz8⟩ := A0.facts7 | skip); clear cc)
        | (go_at_call 32; refine (KN.out _ (hT.below (by repeat (first | with_reducible assumption | with_reducible exact Below.refl _ _ | with_reducible refine Below.setCell ?_ (by first | omega | (simp; done) | (simp; omega)) _ | with_reducible refine Below.alloc ?_ (by first | omega | (simp; done) | (simp; omega)) _ | with_reducible refine Below.drew ?_)))).mono ?_; rintro e wy ⟨vy, rfl, oy, cc⟩; obtain ⟨ay, cy, rfl⟩ := oy.sl; have By := kept_next (V := w13) (by repeat (first | with_reducible assumption | with_reducible exact Below.refl _ _ | with_reducible refine Below.setCell ?_ (by first | omega | (simp; done) | (simp; omega)) _ | with_reducible refine Below.alloc ?_ (by first | omega | (simp; done) | (simp; omega)) _ | with_reducible refine Below.drew ?_)) cc; have zy := By.size; (first | have hA0 := A0.lt | skip); (first | have A0 := A0.below cc | have A0 := A0.drew.below cc | have A0 := At.born cc | have A0 := At.bornD cc | skip); (first | obtain ⟨jy0, jy1, jy2, jy3, jy4, jy5, jy6, jy7, jy8⟩ := A0.facts7 | skip); clear cc))
      all_goals (go_wp2_with fail; go_meet)
      all_goals first
        | exact ⟨rfl, _, rfl, by first | omega | (simp; omega), A0.sets7 _ _ _ _ _ _ _, (by repeat (first | with_reducible assumption | with_reducible exact Below.refl _ _ | with_reducible refine Below.setCell ?_ (by first | omega | (simp; done) | (simp; omega)) _ | with_reducible refine Below.alloc ?_ (by first | omega | (simp; done) | (simp; omega)) _ | with_reducible refine Below.drew ?_))⟩
        | exact ⟨rfl, _, rfl, by first | omega | (simp; omega), At.new _ _ _ rfl rfl, (by repeat (first | with_reducible assumption | with_reducible exact Below.refl _ _ | with_reducible refine Below.setCell ?_ (by first | omega | (simp; done) | (simp; omega)) _ | with_reducible refine Below.alloc ?_ (by first | omega | (simp; done) | (simp; omega)) _ | with_reducible refine Below.drew ?_))⟩
        | exact ⟨rfl, _, rfl, by first | omega | (simp; omega), (At.new _ _ _ rfl rfl).drew, (by repeat (first | with_reducible assumption | with_reducible exact Below.refl _ _ | with_reducible refine Below.setCell ?_ (by first | omega | (simp; done) | (simp; omega)) _ | with_reducible refine Below.alloc ?_ (by first | omega | (simp; done) | (simp; omega)) _ | with_reducible refine Below.drew ?_))⟩
    case rest =>
      obtain ⟨rfl, BQ, rfl, hBQ, Q0, c⟩ := hcut
      clear tT00 tT01 tT02 tT03 tT04 tT05 tB00 tB01 tB02 tB03 tB04 tB05
      clear hT m0 m1 m2 m3 m4 m5 m6 hi1 hi2 hi3 hbe
      replace pw := pw.below c
      replace hs := hs.below c
      replace B0 := B0.below c
      replace oT := oT.below c
      replace T0 := T0.below c
      replace oY := oY.below c
      replace Y0 := Y0.below c
      replace bt := bt.trans (c.mono bt.size)
      clear c
      obtain ⟨w14, hW⟩ : ∃ W, W = wc := ⟨_, rfl⟩
      rw [← hW]
      subst hW
      go_upto_region 12 with fail
      obtain ⟨tB00, tB01, tB02, tB03, tB04, tB05⟩ := id B0.facts4
      obtain ⟨tQ00, tQ01, tQ02, tQ03, tQ04, tQ05, tQ06, tQ07, tQ08⟩ := id Q0.facts7
      go_cut [12, 13] (fun p12 p13 wx => p13 = .bool true ∧ BoxS w14 ⟨nst, nl⟩ p12 wx)
      case first =>
        go_region_held3 (fun w' => Below w14.heap.size w14 w' ∧ ∀ b o, b < w14.heap.size → w'.cell? ⟨b, o, none⟩ = w14.cell? ⟨b, o, none⟩) (exact kept (by repeat (first | with_reducible assumption | with_reducible exact Below.refl _ _ | with_reducible refine Below.setCell ?_ (by first | omega | (simp; done) | (simp; omega)) _ | with_reducible refine Below.alloc ?_ (by first | omega | (simp; done) | (simp; omega)) _ | with_reducible refine Below.drew ?_)))
          (first
          | (go_at_call 16; refine (KD.out _ _ _ (by first | exact oy.kr | exact (oy.alloc _).kr)).mono ?_; rintro e wz ⟨vz, rfl, oz, cc⟩; obtain ⟨az, cz, rfl⟩ := oz.sl; have Bz := kept_next (V := w14) (by repeat (first | with_reducible assumption | with_reducible exact Below.refl _ _ | with_reducible refine Below.setCell ?_ (by first | omega | (simp; done) | (simp; omega)) _ | with_reducible refine Below.alloc ?_ (by first | omega | (simp; done) | (simp; omega)) _ | with_reducible refine Below.drew ?_)) cc; have zz := Bz.size; (first | have hA0 := A0.lt | skip); (first | have A0 := A0.below cc | have A0 := A0.drew.below cc | have A0 := At.born cc | have A0 := At.bornD cc | skip); (first | obtain ⟨jz0, jz1, jz2, jz3⟩ := A0.facts2 | skip); clear cc)
          | (go_at_call 32; refine (KM.out _ (hs.below (by repeat (first | with_reducible assumption | with_reducible exact Below.refl _ _ | with_reducible refine Below.setCell ?_ (by first | omega | (simp; done) | (simp; omega)) _ | with_reducible refine Below.alloc ?_ (by first | omega | (simp; done) | (simp; omega)) _ | with_reducible refine Below.drew ?_)))).mono ?_; rintro e wy ⟨vy, rfl, oy, cc⟩; obtain ⟨ay, cy, rfl⟩ := oy.sl; have By := kept_next (V := w14) (by repeat (first | with_reducible assumption | with_reducible exact Below.refl _ _ | with_reducible refine Below.setCell ?_ (by first | omega | (simp; done) | (simp; omega)) _ | with_reducible refine Below.alloc ?_ (by first | omega | (simp; done) | (simp; omega)) _ | with_reducible refine Below.drew ?_)) cc; have zy := By.size; (first | have hA0 := A0.lt | skip); (first | have A0 := A0.below cc | have A0 := A0.drew.below cc | have A0 := At.born cc | have A0 := At.bornD cc | skip); (first | obtain ⟨jy0, jy1, jy2, jy3⟩ := A0.facts2 | skip); clear cc))
        all_goals (go_wp2_with fail; go_meet)
        all_goals exact ⟨rfl, (by first | with_reducible exact boxS_new (s := ⟨nst, nl⟩) oz (by first | omega | (simp; done) | (simp; omega)) Bz | exact boxS_old (s := ⟨nst, nl⟩) A0 (by first | omega | (simp; done) | (simp; omega)) oz (by first | omega | (simp; done) | (simp; omega)) (by first | exact hA0 | simp) Bz)⟩
      case rest =>
        obtain ⟨rfl, BR, aR, cR, rfl, hBR, R0, oR, neR, c⟩ := hcut
        simp only at R0 oR neR
        clear tB00 tB01 tB02 tB03 tB04 tB05 tQ00 tQ01 tQ02 tQ03 tQ04 tQ05 tQ06 tQ07 tQ08
        replace pw := pw.below c
        replace hs := hs.below c
        replace B0 := B0.below c
        replace oT := oT.below c
        replace T0 := T0.below c
        replace oY := oY.below c
        replace Y0 := Y0.below c
        replace Q0 := Q0.below c
        replace bt := bt.trans (c.mono bt.size)
        clear c
        go_upto_region 13 with fail
        obtain ⟨tT00, tT01, tT02, tT03, tT04, tT05⟩ := id T0.facts4
        obtain ⟨tY00, tY01, tY02, tY03, tY04, tY05⟩ := id Y0.facts4
        obtain ⟨tB00, tB01, tB02, tB03, tB04, tB05⟩ := id B0.facts4
        obtain ⟨tR00, tR01, tR02, tR03⟩ := id R0.facts2
        have hT := oT.kr
        have hY := oY.kr
        have hR := oR.kr
        go_region_held3 (fun w' => Below wc.heap.size wc w' ∧ ∀ b o, b < wc.heap.size → w'.cell? ⟨b, o, none⟩ = wc.cell? ⟨b, o, none⟩) (exact kept (by repeat (first | with_reducible assumption | with_reducible exact Below.refl _ _ | with_reducible refine Below.setCell ?_ (by first | omega | (simp; done) | (simp; omega)) _ | with_reducible refine Below.alloc ?_ (by first | omega | (simp; done) | (simp; omega)) _ | with_reducible refine Below.drew ?_)))
          (first
          | (go_at_call 18; refine (sameSurvey_any _ _ _ _ nst nst nl nl _ (by omega) (by omega) (hR.below (by repeat (first | with_reducible assumption | with_reducible exact Below.refl _ _ | with_reducible refine Below.setCell ?_ (by first | omega | (simp; done) | (simp; omega)) _ | with_reducible refine Below.alloc ?_ (by first | omega | (simp; done) | (simp; omega)) _ | with_reducible refine Below.drew ?_))) (by first | exact on.kr | exact (on.alloc _).kr)).mono ?_; rintro e ws ⟨rfl, cc⟩; rw [dec_yes rfl]; have Bs := kept_next (V := wc) (by repeat (first | with_reducible assumption | with_reducible exact Below.refl _ _ | with_reducible refine Below.setCell ?_ (by first | omega | (simp; done) | (simp; omega)) _ | with_reducible refine Below.alloc ?_ (by first | omega | (simp; done) | (simp; omega)) _ | with_reducible refine Below.drew ?_)) cc; have zs := Bs.size; (first | have hA0 := A0.lt | skip); (first | have A0 := A0.below cc | have A0 := A0.drew.below cc | have A0 := At.born cc | have A0 := At.bornD cc | skip); clear cc)
          | (go_at_call 32; refine (KN.out _ (hT.below (by repeat (first | with_reducible assumption | with_reducible exact Below.refl _ _ | with_reducible refine Below.setCell ?_ (by first | omega | (simp; done) | (simp; omega)) _ | with_reducible refine Below.alloc ?_ (by first | omega | (simp; done) | (simp; omega)) _ | with_reducible refine Below.drew ?_)))).mono ?_; rintro e wn ⟨vn, rfl, on, cc⟩; obtain ⟨an, cn, rfl⟩ := on.sl; have Bn := kept_next (V := wc) (by repeat (first | with_reducible assumption | with_reducible exact Below.refl _ _ | with_reducible refine Below.setCell ?_ (by first | omega | (simp; done) | (simp; omega)) _ | with_reducible refine Below.alloc ?_ (by first | omega | (simp; done) | (simp; omega)) _ | with_reducible refine Below.drew ?_)) cc; have zn := Bn.size; (first | have hA0 := A0.lt | skip); (first | have A0 := A0.below cc | have A0 := A0.drew.below cc | have A0 := At.born cc | have A0 := At.bornD cc | skip); clear cc)
          | (go_at_call 37; refine (sameBook_any _ _ _ _ _ _ _ _ _ _ _ _ st st l l d u d u _ (by omega) (by omega) (by omega) (by omega) (by omega) (by omega) (hY.below (by repeat (first | with_reducible assumption | with_reducible exact Below.refl _ _ | with_reducible refine Below.setCell ?_ (by first | omega | (simp; done) | (simp; omega)) _ | with_reducible refine Below.alloc ?_ (by first | omega | (simp; done) | (simp; omega)) _ | with_reducible refine Below.drew ?_))) (hs.below (by repeat (first | with_reducible assumption | with_reducible exact Below.refl _ _ | with_reducible refine Below.setCell ?_ (by first | omega | (simp; done) | (simp; omega)) _ | with_reducible refine Below.alloc ?_ (by first | omega | (simp; done) | (simp; omega)) _ | with_reducible refine Below.drew ?_)))).mono ?_; rintro e wk ⟨rfl, cc⟩; rw [dec_yes rfl]; have Bk := kept_next (V := wc) (by repeat (first | with_reducible assumption | with_reducible exact Below.refl _ _ | with_reducible refine Below.setCell ?_ (by first | omega | (simp; done) | (simp; omega)) _ | with_reducible refine Below.alloc ?_ (by first | omega | (simp; done) | (simp; omega)) _ | with_reducible refine Below.drew ?_)) cc; have zk := Bk.size; (first | have hA0 := A0.lt | skip); (first | have A0 := A0.below cc | have A0 := A0.drew.below cc | have A0 := At.born cc | have A0 := At.bornD cc | skip); clear cc)
          | (go_at_call 29; refine (bookValid_any xT1 xT2 xT3 yT1 yT2 yT3 rst rl rd ru _ (by omega) (by omega) (by omega) (hT.below (by repeat (first | with_reducible assumption | with_reducible exact Below.refl _ _ | with_reducible refine Below.setCell ?_ (by first | omega | (simp; done) | (simp; omega)) _ | with_reducible refine Below.alloc ?_ (by first | omega | (simp; done) | (simp; omega)) _ | with_reducible refine Below.drew ?_)))).mono ?_; rintro e wv ⟨rfl, cc⟩; rw [q4]; have Bv := kept_next (V := wc) (by repeat (first | with_reducible assumption | with_reducible exact Below.refl _ _ | with_reducible refine Below.setCell ?_ (by first | omega | (simp; done) | (simp; omega)) _ | with_reducible refine Below.alloc ?_ (by first | omega | (simp; done) | (simp; omega)) _ | with_reducible refine Below.drew ?_)) cc; have zv := Bv.size; (first | have hA0 := A0.lt | skip); (first | have A0 := A0.below cc | have A0 := A0.drew.below cc | have A0 := At.born cc | have A0 := At.bornD cc | skip); clear cc))
        all_goals (go_wp2_with fail; go_ret)
        all_goals exact ⟨rfl, bt.trans (Below.mono (by repeat (first | with_reducible assumption | with_reducible exact Below.refl _ _ | with_reducible refine Below.setCell ?_ (by first | omega | (simp; done) | (simp; omega)) _ | with_reducible refine Below.alloc ?_ (by first | omega | (simp; done) | (simp; omega)) _ | with_reducible refine Below.drew ?_)) bt.size)⟩
end Go.Proofs.YtdgnndlhnblenaaDoor
