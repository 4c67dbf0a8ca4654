/- The law FnBookDo, walked: a new deed forgets what was undone (written by wip/bin/gen_vb5.py). -/
import Derived.Test.YtdgnndlhnblenaaDoorVB3
import Derived.Test.YtdgnndlhnblenaaDoorK8
set_option linter.unusedSimpArgs false
set_option linter.unusedVariables false
namespace Go.Proofs.YtdgnndlhnblenaaDoor
open Go Go.RowKit Go.Sort

set_option maxRecDepth 100000 in
set_option maxHeartbeats 4000000 in
theorem lawBookDo (a : Option Addr) (n c : Nat) (w : World) (hc : n ≤ c) (hn : n ≤ 9223372036854775807) (hb : n ≤ 1048576 → Bytes w a n) (hpw : Pow w) :
    Calls Tryd.prog 9 #[.slice a n c] w fun e w' => e = .returned (.bool true) ∧ Below w.heap.size w w' := by
  by_cases hbig : 1048576 < n
  · go_enter Tryd.func9, Tryd.ntmps9
    go_wp2_with fail
    go_ret
    exact ⟨rfl, (by repeat (first | with_reducible assumption | exact Below.refl _ _ | refine below_drewN ?_ _ | refine Below.drew ?_ | refine Below.alloc ?_ (by first | omega | (simp; done) | (simp; omega)) _ | refine Below.setCell ?_ (by first | omega | (simp; done) | (simp; omega)) _))⟩
  replace hb := hb (by omega)
  go_enter Tryd.func9, Tryd.ntmps9
  go_wp2_with fail
  refine (drawBookDo_any a n c w hc (by omega) hb).mono ?_
  rintro e w1 ⟨⟨⟨st, l⟩, d, u⟩, v1, v2, v3, ⟨kd, ix, ⟨g1, g2, g3, g4, g5⟩⟩, rfl, o, hsz, bt⟩
  obtain ⟨a1, c1, a2, c2, a3, c3, rfl, rfl, rfl⟩ := o.forms
  simp only at o ⊢
  have pw := hpw.below bt
  have hs := o.kr
  have hl : l.length ≤ 10 := hsz.1
  have hdu : d.length + u.length ≤ 41 := hsz.2.1
  clear o hb hpw hn hc hsz
  obtain ⟨⟨⟨⟨rst, rl⟩, rd, ru⟩, ok⟩, hp⟩ : ∃ p, bkDo ⟨⟨st, l⟩, d, u⟩ ⟨kd, ix, ⟨g1, g2, g3, g4, g5⟩⟩ = p := ⟨_, rfl⟩
  have hlr : rl.length ≤ 9 ∧ rd.length ≤ 41 ∧ ru.length ≤ 41 := by have := bkDo_len ⟨⟨st, l⟩, d, u⟩ ⟨kd, ix, ⟨g1, g2, g3, g4, g5⟩⟩; rw [hp] at this; exact this
  have KI := Lib.hid (show ∀ (w' : World), RdB w' a1 a2 a3 ⟨⟨st, l⟩, d, u⟩ → Calls Tryd.prog 40 #[.agg #[.int .i64 st, .slice a1 l.length c1, .slice a2 d.length c2, .slice a3 u.length c3], .agg #[.int .i64 kd, .int .i64 ix, .int .i64 g1, .int .i64 g2, .int .i64 g3, .int .i64 g4, .int .i64 g5]] w' (BkOut (⟨⟨rst, rl⟩, rd, ru⟩, ok) w') from fun w' h => by
    have := bookDo_any a1 a2 a3 c1 c2 c3 st l d u ⟨kd, ix, ⟨g1, g2, g3, g4, g5⟩⟩ w' (by omega) (by omega) (by omega) h
    rw [hp] at this
    exact this)
  have KS := Lib.hid (show ∀ (w' : World), RdB w' a1 a2 a3 ⟨⟨st, l⟩, d, u⟩ → Calls Tryd.prog 41 #[.agg #[.int .i64 st, .slice a1 l.length c1, .slice a2 d.length c2, .slice a3 u.length c3], .agg #[.int .i64 kd, .int .i64 ix, .int .i64 g1, .int .i64 g2, .int .i64 g3, .int .i64 g4, .int .i64 g5]] w' (BkOut (⟨⟨rst, rl⟩, rd, ru⟩, ok) w') from fun w' h => by
    have := sbookDo_any a1 a2 a3 c1 c2 c3 st l d u ⟨kd, ix, ⟨g1, g2, g3, g4, g5⟩⟩ w' (by omega) (by omega) (by omega) h
    rw [hp] at this
    exact this)
  have HP := Lib.hid hp
  clear hp
  go_upto_region 4 with fail
  obtain ⟨BB, hY⟩ : ∃ Y, w1.heap.size = Y := ⟨_, rfl⟩
  obtain ⟨w2, hV⟩ : ∃ V, V = (w1.alloc (.cells #[.int .i64 st, .slice a1 l.length c1, .slice a2 d.length c2, .slice a3 u.length c3] 46)).alloc (.cells #[.int .i64 kd, .int .i64 ix, .int .i64 g1, .int .i64 g2, .int .i64 g3, .int .i64 g4, .int .i64 g5] 29) := ⟨_, rfl⟩
  have c : Below w1.heap.size w1 w2 := by rw [hV]; exact (by repeat (first | with_reducible assumption | exact Below.refl _ _ | refine below_drewN ?_ _ | refine Below.drew ?_ | refine Below.alloc ?_ (by first | omega | (simp; done) | (simp; omega)) _ | refine Below.setCell ?_ (by first | omega | (simp; done) | (simp; omega)) _))
  have B0 : At w2 BB [.int .i64 st, .slice a1 l.length c1, .slice a2 d.length c2, .slice a3 u.length c3] := by rw [hV]; exact (At.new _ _ _ hY.symm rfl).alloc _
  have D0 : At w2 (BB + 1) [.int .i64 kd, .int .i64 ix, .int .i64 g1, .int .i64 g2, .int .i64 g3, .int .i64 g4, .int .i64 g5] := by rw [hV]; exact At.new _ _ _ (by simp [hY]) rfl
  rw [hY, ← hV]
  clear hV hY
  replace pw := pw.below c
  replace hs := hs.below c
  replace bt := bt.trans (c.mono bt.size)
  clear c
  obtain ⟨tB00, tB01, tB02, tB03, tB04, tB05⟩ := id B0.facts4
  obtain ⟨tD00, tD01, tD02, tD03, tD04, tD05, tD06, tD07, tD08⟩ := id D0.facts7
  go_wp2_with fail
  refine (KI.out _ hs).mono ?_
  rintro e w3 ⟨v1T, v2T, v3T, rfl, oT, c⟩
  clear tB00 tB01 tB02 tB03 tB04 tB05 tD00 tD01 tD02 tD03 tD04 tD05 tD06 tD07 tD08
  obtain ⟨xT1, yT1, xT2, yT2, xT3, yT3, rfl, rfl, rfl⟩ := oT.forms
  simp only at oT ⊢
  replace pw := pw.below c
  replace hs := hs.below c
  replace B0 := B0.below c
  replace D0 := D0.below c
  replace bt := bt.trans (c.mono bt.size)
  clear c
  go_upto_region 5 with fail
  obtain ⟨BT0, hY⟩ : ∃ Y, w3.heap.size = Y := ⟨_, rfl⟩
  obtain ⟨w4, hV⟩ : ∃ V, V = w3.alloc (.cells #[.int .i64 rst, .slice xT1 rl.length yT1, .slice xT2 rd.length yT2, .slice xT3 ru.length yT3] 46) := ⟨_, rfl⟩
  have c : Below w3.heap.size w3 w4 := by rw [hV]; exact (by repeat (first | with_reducible assumption | exact Below.refl _ _ | refine below_drewN ?_ _ | refine Below.drew ?_ | refine Below.alloc ?_ (by first | omega | (simp; done) | (simp; omega)) _ | refine Below.setCell ?_ (by first | omega | (simp; done) | (simp; omega)) _))
  have T0 : At w4 BT0 [.int .i64 rst, .slice xT1 rl.length yT1, .slice xT2 rd.length yT2, .slice xT3 ru.length yT3] := by rw [hV]; exact At.new _ _ _ hY.symm rfl
  rw [hY, ← hV]
  clear hV hY
  replace pw := pw.below c
  replace hs := hs.below c
  replace B0 := B0.below c
  replace D0 := D0.below c
  replace oT := oT.below c
  replace bt := bt.trans (c.mono bt.size)
  clear c
  obtain ⟨tB00, tB01, tB02, tB03, tB04, tB05⟩ := id B0.facts4
  obtain ⟨tD00, tD01, tD02, tD03, tD04, tD05, tD06, tD07, tD08⟩ := id D0.facts7
  go_wp2_with fail
  refine (KS.out _ hs).mono ?_
  rintro e w5 ⟨v1U, v2U, v3U, rfl, oU, c⟩
  clear tB00 tB01 tB02 tB03 tB04 tB05 tD00 tD01 tD02 tD03 tD04 tD05 tD06 tD07 tD08
  obtain ⟨xU1, yU1, xU2, yU2, xU3, yU3, rfl, rfl, rfl⟩ := oU.forms
  simp only at oU ⊢
  replace pw := pw.below c
  replace hs := hs.below c
  replace B0 := B0.below c
  replace D0 := D0.below c
  replace oT := oT.below c
  replace T0 := T0.below c
  replace bt := bt.trans (c.mono bt.size)
  clear c
  go_upto_region 6 with fail
  obtain ⟨BU0, hY⟩ : ∃ Y, w5.heap.size = Y := ⟨_, rfl⟩
  obtain ⟨w6, hV⟩ : ∃ V, V = w5.alloc (.cells #[.int .i64 rst, .slice xU1 rl.length yU1, .slice xU2 rd.length yU2, .slice xU3 ru.length yU3] 46) := ⟨_, rfl⟩
  have c : Below w5.heap.size w5 w6 := by rw [hV]; exact (by repeat (first | with_reducible assumption | exact Below.refl _ _ | refine below_drewN ?_ _ | refine Below.drew ?_ | refine Below.alloc ?_ (by first | omega | (simp; done) | (simp; omega)) _ | refine Below.setCell ?_ (by first | omega | (simp; done) | (simp; omega)) _))
  have U0 : At w6 BU0 [.int .i64 rst, .slice xU1 rl.length yU1, .slice xU2 rd.length yU2, .slice xU3 ru.length yU3] := by rw [hV]; exact At.new _ _ _ hY.symm rfl
  rw [hY, ← hV]
  clear hV hY
  replace pw := pw.below c
  replace hs := hs.below c
  replace B0 := B0.below c
  replace D0 := D0.below c
  replace oT := oT.below c
  replace T0 := T0.below c
  replace oU := oU.below c
  replace bt := bt.trans (c.mono bt.size)
  clear c
  have hok : (ok != ok) = false := by simp
  obtain ⟨tT00, tT01, tT02, tT03, tT04, tT05⟩ := id T0.facts4
  obtain ⟨tU00, tU01, tU02, tU03, tU04, tU05⟩ := id U0.facts4
  go_wp2_with fail
  refine (sameBook_any _ _ _ _ _ _ _ _ _ _ _ _ rst rst rl rl rd ru rd ru _ (by omega) (by omega) (by omega) (by omega) (by omega) (by omega) oT.kr oU.kr).mono ?_
  rintro e w7 ⟨rfl, c⟩
  clear tT00 tT01 tT02 tT03 tT04 tT05 tU00 tU01 tU02 tU03 tU04 tU05
  rw [dec_yes rfl]
  replace pw := pw.below c
  replace hs := hs.below c
  replace B0 := B0.below c
  replace D0 := D0.below c
  replace oT := oT.below c
  replace T0 := T0.below c
  replace oU := oU.below c
  replace U0 := U0.below c
  replace bt := bt.trans (c.mono bt.size)
  clear c
  clear oU U0
  cases ok with
  | false =>
    have hF : bkOk ⟨⟨st, l⟩, d, u⟩ = true → (⟨⟨rst, rl⟩, rd, ru⟩ : Bk) = ⟨⟨st, l⟩, d, u⟩ := fun h => by
      have := bkDoNo (d := ⟨kd, ix, ⟨g1, g2, g3, g4, g5⟩⟩) (by rw [HP.out]) h
      rw [HP.out] at this; exact this
    obtain ⟨E, hE⟩ : ∃ e, decide ((⟨⟨rst, rl⟩, rd, ru⟩ : Bk) = ⟨⟨st, l⟩, d, u⟩) = e := ⟨_, rfl⟩
    have hV : E = false → bkOk ⟨⟨st, l⟩, d, u⟩ = false := fun h => by
      rw [h] at hE
      cases hb : bkOk ⟨⟨st, l⟩, d, u⟩
      · rfl
      · rw [dec_yes (hF hb)] at hE; cases hE
    clear hF HP
    obtain ⟨tT00, tT01, tT02, tT03, tT04, tT05⟩ := id T0.facts4
    obtain ⟨tB00, tB01, tB02, tB03, tB04, tB05⟩ := id B0.facts4
    go_wp2_with fail
    refine (sameBook_any _ _ _ _ _ _ _ _ _ _ _ _ rst st rl l rd ru d u _ (by omega) (by omega) (by omega) (by omega) (by omega) (by omega) oT.kr hs).mono ?_
    rintro e w8 ⟨rfl, c⟩
    clear tT00 tT01 tT02 tT03 tT04 tT05 tB00 tB01 tB02 tB03 tB04 tB05
    rw [hE]
    replace pw := pw.below c
    replace hs := hs.below c
    replace B0 := B0.below c
    replace D0 := D0.below c
    replace oT := oT.below c
    replace T0 := T0.below c
    replace bt := bt.trans (c.mono bt.size)
    clear c
    clear hE
    cases E with
    | true =>
      clear hV
      go_wp2_with fail
      refine (alive_any _ pw).mono ?_
      rintro e w9 ⟨rfl, c⟩
      replace pw := pw.below c
      replace hs := hs.below c
      replace B0 := B0.below c
      replace D0 := D0.below c
      replace oT := oT.below c
      replace T0 := T0.below c
      replace bt := bt.trans (c.mono bt.size)
      clear c
      go_wp2_with fail
      go_ret
      exact ⟨rfl, bt⟩
    | false =>
      have hv := hV rfl
      clear hV
      obtain ⟨tB00, tB01, tB02, tB03, tB04, tB05⟩ := id B0.facts4
      go_wp2_with fail
      refine (bookValid_any a1 a2 a3 c1 c2 c3 st l d u _ (by omega) (by omega) (by omega) hs).mono ?_
      rintro e w10 ⟨rfl, c⟩
      clear tB00 tB01 tB02 tB03 tB04 tB05
      rw [hv]
      replace pw := pw.below c
      replace hs := hs.below c
      replace B0 := B0.below c
      replace D0 := D0.below c
      replace oT := oT.below c
      replace T0 := T0.below c
      replace bt := bt.trans (c.mono bt.size)
      clear c
      clear hv
      go_wp2_with fail
      refine (alive_any _ pw).mono ?_
      rintro e w11 ⟨rfl, c⟩
      replace pw := pw.below c
      replace hs := hs.below c
      replace B0 := B0.below c
      replace D0 := D0.below c
      replace oT := oT.below c
      replace T0 := T0.below c
      replace bt := bt.trans (c.mono bt.size)
      clear c
      go_wp2_with fail
      go_ret
      exact ⟨rfl, bt⟩
  | true =>
    obtain ⟨-, q2, q3, q4, q5⟩ := do_can (b := ⟨⟨st, l⟩, d, u⟩) (d := ⟨kd, ix, ⟨g1, g2, g3, g4, g5⟩⟩) (by rw [HP.out])
    have q6 := do_redo (b := ⟨⟨st, l⟩, d, u⟩) (d := ⟨kd, ix, ⟨g1, g2, g3, g4, g5⟩⟩) (by rw [HP.out])
    obtain ⟨q7, q8⟩ := do_undo (b := ⟨⟨st, l⟩, d, u⟩) (d := ⟨kd, ix, ⟨g1, g2, g3, g4, g5⟩⟩) (by rw [HP.out])
    have q9 := congrArg Prod.fst q3
    rw [HP.out] at q6 q7 q8 q9
    simp only at q6 q7 q8 q9
    rw [← q9] at q4 q5
    obtain ⟨⟨⟨⟨pst, pl⟩, pd, pu⟩, pk⟩, hR⟩ : ∃ p, bkRedo ⟨⟨rst, rl⟩, rd, ru⟩ = p := ⟨_, rfl⟩
    obtain ⟨⟨⟨⟨zst, zl⟩, zd, zu⟩, zk⟩, hU⟩ : ∃ p, bkUndo ⟨⟨rst, rl⟩, rd, ru⟩ = p := ⟨_, rfl⟩
    have hlz : zl.length ≤ 9 ∧ zd.length ≤ 41 ∧ zu.length ≤ 41 := by have := bkUndo_len ⟨⟨rst, rl⟩, rd, ru⟩; rw [hU] at this; exact this
    obtain ⟨⟨nst, nl⟩, hN⟩ : ∃ p, bkNow ⟨⟨rst, rl⟩, rd, ru⟩ = p := ⟨_, rfl⟩
    obtain ⟨⟨mst, ml⟩, hM⟩ : ∃ p, bkNow ⟨⟨st, l⟩, d, u⟩ = p := ⟨_, rfl⟩
    have hnl : nl.length ≤ 9 := by have := bkNow_len ⟨⟨rst, rl⟩, rd, ru⟩; rw [hN] at this; exact this
    have hml : ml.length ≤ 9 := by have := bkNow_len ⟨⟨st, l⟩, d, u⟩; rw [hM] at this; exact this
    rw [hR] at q6
    rw [hU] at q7 q8
    rw [hM] at q2 q5 q8
    rw [hN] at q5
    simp only at q6 q7 q8
    subst q6 q7
    have q10 : ddDo ⟨mst, ml⟩ ⟨kd, ix, ⟨g1, g2, g3, g4, g5⟩⟩ = (⟨nst, nl⟩, true) := Prod.ext q5.symm q2
    have KR := Lib.hid (show ∀ (w' : World), RdB w' xT1 xT2 xT3 ⟨⟨rst, rl⟩, rd, ru⟩ → Calls Tryd.prog 35 #[.agg #[.int .i64 rst, .slice xT1 rl.length yT1, .slice xT2 rd.length yT2, .slice xT3 ru.length yT3]] w' (BkOut (⟨⟨pst, pl⟩, pd, pu⟩, false) w') from fun w' h => by
      have := bookRedo_any xT1 xT2 xT3 yT1 yT2 yT3 rst rl rd ru w' (by omega) (by omega) (by omega) h
      rw [hR] at this
      exact this)
    have KU := Lib.hid (show ∀ (w' : World), RdB w' xT1 xT2 xT3 ⟨⟨rst, rl⟩, rd, ru⟩ → Calls Tryd.prog 38 #[.agg #[.int .i64 rst, .slice xT1 rl.length yT1, .slice xT2 rd.length yT2, .slice xT3 ru.length yT3]] w' (BkOut (⟨⟨zst, zl⟩, zd, zu⟩, true) w') from fun w' h => by
      have := bookUndo_any xT1 xT2 xT3 yT1 yT2 yT3 rst rl rd ru w' (by omega) (by omega) (by omega) h
      rw [hU] at this
      exact this)
    have KN := Lib.hid (show ∀ (w' : World), RdB w' xT1 xT2 xT3 ⟨⟨rst, rl⟩, rd, ru⟩ → Calls Tryd.prog 32 #[.agg #[.int .i64 rst, .slice xT1 rl.length yT1, .slice xT2 rd.length yT2, .slice xT3 ru.length yT3]] w' (SvRet ⟨nst, nl⟩ w') from fun w' h => by
      have := bookNow_any xT1 xT2 xT3 yT1 yT2 yT3 rst rl rd ru w' (by omega) (by omega) (by omega) h
      rw [hN] at this
      exact this)
    have KM := Lib.hid (show ∀ (w' : World), RdB w' a1 a2 a3 ⟨⟨st, l⟩, d, u⟩ → Calls Tryd.prog 32 #[.agg #[.int .i64 st, .slice a1 l.length c1, .slice a2 d.length c2, .slice a3 u.length c3]] w' (SvRet ⟨mst, ml⟩ w') from fun w' h => by
      have := bookNow_any a1 a2 a3 c1 c2 c3 st l d u w' (by omega) (by omega) (by omega) h
      rw [hM] at this
      exact this)
    have KD := Lib.hid (show ∀ (aN : Option Addr) (cN : Nat) (w' : World), Legs w' aN ml → Calls Tryd.prog 16 #[.agg #[.int .i64 mst, .slice aN ml.length cN], .agg #[.int .i64 kd, .int .i64 ix, .int .i64 g1, .int .i64 g2, .int .i64 g3, .int .i64 g4, .int .i64 g5]] w' (SvOut (⟨nst, nl⟩, true) w') from fun aN cN w' h => by
      have := deedDo_any aN cN mst ml ⟨kd, ix, ⟨g1, g2, g3, g4, g5⟩⟩ w' (by omega) h
      rw [q10] at this
      exact this)
    have HZ := Lib.hid q8
    clear HP q2 q3 q5 q8 q9 q10 hR hU hN hM
    go_upto_region 10 with fail
    obtain ⟨tB00, tB01, tB02, tB03, tB04, tB05⟩ := id B0.facts4
    obtain ⟨tD00, tD01, tD02, tD03, tD04, tD05, tD06, tD07, tD08⟩ := id D0.facts7
    go_cut [9, 10] (fun p9 p10 wx => p10 = .bool true ∧ BoxS w7 ⟨nst, nl⟩ p9 wx)
    case first =>
      go_region_held3 (fun w' => Below w7.heap.size w7 w' ∧ ∀ b o, b < w7.heap.size → w'.cell? ⟨b, o, none⟩ = w7.cell? ⟨b, o, none⟩) (exact kept (by repeat (first | with_reducible assumption | with_reducible exact Below.refl _ _ | with_reducible refine Below.setCell ?_ (by first | omega | (simp; done) | (simp; omega)) _ | with_reducible refine Below.alloc ?_ (by first | omega | (simp; done) | (simp; omega)) _ | with_reducible refine Below.drew ?_)))
        (first
        | (go_at_call 16; refine (KD.out _ _ _ (by first | exact oy.kr | exact (oy.alloc _).kr)).mono ?_; rintro e wz ⟨vz, rfl, oz, cc⟩; obtain ⟨az, cz, rfl⟩ := oz.sl; have Bz := kept_next (V := w7) (by repeat (first | with_reducible assumption | with_reducible exact Below.refl _ _ | with_reducible refine Below.setCell ?_ (by first | omega | (simp; done) | (simp; omega)) _ | with_reducible refine Below.alloc ?_ (by first | omega | (simp; done) | (simp; omega)) _ | with_reducible refine Below.drew ?_)) cc; have zz := Bz.size; (first | have hA0 := A0.lt | skip); (first | have A0 := A0.below cc | have A0 := A0.drew.below cc | have A0 := At.born cc | have A0 := At.bornD cc | skip); (first | obtain ⟨jz0, jz1, jz2, jz3⟩ := A0.facts2 | skip); clear cc)
        | (go_at_call 32; refine (KM.out _ (hs.below (by repeat (first | with_reducible assumption | with_reducible exact Below.refl _ _ | with_reducible refine Below.setCell ?_ (by first | omega | (simp; done) | (simp; omega)) _ | with_reducible refine Below.alloc ?_ (by first | omega | (simp; done) | (simp; omega)) _ | with_reducible refine Below.drew ?_)))).mono ?_; rintro e wy ⟨vy, rfl, oy, cc⟩; obtain ⟨ay, cy, rfl⟩ := oy.sl; have By := kept_next (V := w7) (by repeat (first | with_reducible assumption | with_reducible exact Below.refl _ _ | with_reducible refine Below.setCell ?_ (by first | omega | (simp; done) | (simp; omega)) _ | with_reducible refine Below.alloc ?_ (by first | omega | (simp; done) | (simp; omega)) _ | with_reducible refine Below.drew ?_)) cc; have zy := By.size; (first | have hA0 := A0.lt | skip); (first | have A0 := A0.below cc | have A0 := A0.drew.below cc | have A0 := At.born cc | have A0 := At.bornD cc | skip); (first | obtain ⟨jy0, jy1, jy2, jy3⟩ := A0.facts2 | skip); clear cc))
      all_goals (go_wp2_with fail; go_meet)
      all_goals exact ⟨rfl, (by first | with_reducible exact boxS_new (s := ⟨nst, nl⟩) oz (by first | omega | (simp; done) | (simp; omega)) Bz | exact boxS_old (s := ⟨nst, nl⟩) A0 (by first | omega | (simp; done) | (simp; omega)) oz (by first | omega | (simp; done) | (simp; omega)) (by first | exact hA0 | simp) Bz)⟩
    case rest =>
      obtain ⟨rfl, BR, aR, cR, rfl, hBR, R0, oR, neR, c⟩ := hcut
      simp only at R0 oR neR
      clear tB00 tB01 tB02 tB03 tB04 tB05 tD00 tD01 tD02 tD03 tD04 tD05 tD06 tD07 tD08
      replace pw := pw.below c
      replace hs := hs.below c
      replace B0 := B0.below c
      replace D0 := D0.below c
      replace oT := oT.below c
      replace T0 := T0.below c
      replace bt := bt.trans (c.mono bt.size)
      clear c
      obtain ⟨w12, hW⟩ : ∃ W, W = wc := ⟨_, rfl⟩
      rw [← hW]
      subst hW
      obtain ⟨tT00, tT01, tT02, tT03, tT04, tT05⟩ := id T0.facts4
      go_wp2_with fail
      refine (KR.out _ oT.kr).mono ?_
      rintro e w13 ⟨v1P, v2P, v3P, rfl, oP, c⟩
      clear tT00 tT01 tT02 tT03 tT04 tT05
      obtain ⟨xP1, yP1, xP2, yP2, xP3, yP3, rfl, rfl, rfl⟩ := oP.forms
      simp only at oP ⊢
      clear oP
      replace pw := pw.below c
      replace hs := hs.below c
      replace B0 := B0.below c
      replace D0 := D0.below c
      replace oT := oT.below c
      replace T0 := T0.below c
      replace R0 := R0.below c
      replace oR := oR.below c
      replace bt := bt.trans (c.mono bt.size)
      clear c
      go_upto_region 12 with fail
      obtain ⟨BP0, hY⟩ : ∃ Y, w13.heap.size = Y := ⟨_, rfl⟩
      obtain ⟨w14, hV⟩ : ∃ V, V = w13.alloc (.cells #[.int .i64 pst, .slice xP1 pl.length yP1, .slice xP2 pd.length yP2, .slice xP3 pu.length yP3] 46) := ⟨_, rfl⟩
      have c : Below w13.heap.size w13 w14 := by rw [hV]; exact (by repeat (first | with_reducible assumption | exact Below.refl _ _ | refine below_drewN ?_ _ | refine Below.drew ?_ | refine Below.alloc ?_ (by first | omega | (simp; done) | (simp; omega)) _ | refine Below.setCell ?_ (by first | omega | (simp; done) | (simp; omega)) _))
      have P0 : At w14 BP0 [.int .i64 pst, .slice xP1 pl.length yP1, .slice xP2 pd.length yP2, .slice xP3 pu.length yP3] := by rw [hV]; exact At.new _ _ _ hY.symm rfl
      rw [hY, ← hV]
      clear hV hY
      replace pw := pw.below c
      replace hs := hs.below c
      replace B0 := B0.below c
      replace D0 := D0.below c
      replace oT := oT.below c
      replace T0 := T0.below c
      replace R0 := R0.below c
      replace oR := oR.below c
      replace bt := bt.trans (c.mono bt.size)
      clear c
      obtain ⟨tT00, tT01, tT02, tT03, tT04, tT05⟩ := id T0.facts4
      go_wp2_with fail
      refine (KU.out _ oT.kr).mono ?_
      rintro e w15 ⟨v1Z, v2Z, v3Z, rfl, oZ, c⟩
      clear tT00 tT01 tT02 tT03 tT04 tT05
      obtain ⟨xZ1, yZ1, xZ2, yZ2, xZ3, yZ3, rfl, rfl, rfl⟩ := oZ.forms
      simp only at oZ ⊢
      replace pw := pw.below c
      replace hs := hs.below c
      replace B0 := B0.below c
      replace D0 := D0.below c
      replace oT := oT.below c
      replace T0 := T0.below c
      replace R0 := R0.below c
      replace oR := oR.below c
      replace P0 := P0.below c
      replace bt := bt.trans (c.mono bt.size)
      clear c
      go_upto_region 13 with fail
      obtain ⟨BZ0, hY⟩ : ∃ Y, w15.heap.size = Y := ⟨_, rfl⟩
      obtain ⟨w16, hV⟩ : ∃ V, V = w15.alloc (.cells #[.int .i64 zst, .slice xZ1 zl.length yZ1, .slice xZ2 zd.length yZ2, .slice xZ3 zu.length yZ3] 46) := ⟨_, rfl⟩
      have c : Below w15.heap.size w15 w16 := by rw [hV]; exact (by repeat (first | with_reducible assumption | exact Below.refl _ _ | refine below_drewN ?_ _ | refine Below.drew ?_ | refine Below.alloc ?_ (by first | omega | (simp; done) | (simp; omega)) _ | refine Below.setCell ?_ (by first | omega | (simp; done) | (simp; omega)) _))
      have Z0 : At w16 BZ0 [.int .i64 zst, .slice xZ1 zl.length yZ1, .slice xZ2 zd.length yZ2, .slice xZ3 zu.length yZ3] := by rw [hV]; exact At.new _ _ _ hY.symm rfl
      rw [hY, ← hV]
      clear hV hY
      replace pw := pw.below c
      replace hs := hs.below c
      replace B0 := B0.below c
      replace D0 := D0.below c
      replace oT := oT.below c
      replace T0 := T0.below c
      replace R0 := R0.below c
      replace oR := oR.below c
      replace P0 := P0.below c
      replace oZ := oZ.below c
      replace bt := bt.trans (c.mono bt.size)
      clear c
      have KZ := Lib.hid (show ∀ (w' : World), RdB w' xZ1 xZ2 xZ3 ⟨⟨zst, zl⟩, zd, zu⟩ → Calls Tryd.prog 32 #[.agg #[.int .i64 zst, .slice xZ1 zl.length yZ1, .slice xZ2 zd.length yZ2, .slice xZ3 zu.length yZ3]] w' (SvRet ⟨mst, ml⟩ w') from fun w' h => by
        have := bookNow_any xZ1 xZ2 xZ3 yZ1 yZ2 yZ3 zst zl zd zu w' (by omega) (by omega) (by omega) h
        rw [HZ.out] at this
        exact this)
      obtain ⟨tT00, tT01, tT02, tT03, tT04, tT05⟩ := id T0.facts4
      obtain ⟨tZ00, tZ01, tZ02, tZ03, tZ04, tZ05⟩ := id Z0.facts4
      obtain ⟨tB00, tB01, tB02, tB03, tB04, tB05⟩ := id B0.facts4
      obtain ⟨tR00, tR01, tR02, tR03⟩ := id R0.facts2
      have hT := oT.kr
      have hZ := oZ.kr
      have hR := oR.kr
      go_region_held3 (fun w' => Below w16.heap.size w16 w' ∧ ∀ b o, b < w16.heap.size → w'.cell? ⟨b, o, none⟩ = w16.cell? ⟨b, o, none⟩) (exact kept (by repeat (first | with_reducible assumption | with_reducible exact Below.refl _ _ | with_reducible refine Below.setCell ?_ (by first | omega | (simp; done) | (simp; omega)) _ | with_reducible refine Below.alloc ?_ (by first | omega | (simp; done) | (simp; omega)) _ | with_reducible refine Below.drew ?_)))
        (first
        | (have _t := om; clear _t; go_at_call 18; refine (sameSurvey_any _ _ _ _ mst mst ml ml _ (by omega) (by omega) oq.kr om.kr).mono ?_; rintro e wt ⟨rfl, cc⟩; rw [dec_yes rfl]; have Bt := kept_next (V := w16) (by repeat (first | with_reducible assumption | with_reducible exact Below.refl _ _ | with_reducible refine Below.setCell ?_ (by first | omega | (simp; done) | (simp; omega)) _ | with_reducible refine Below.alloc ?_ (by first | omega | (simp; done) | (simp; omega)) _ | with_reducible refine Below.drew ?_)) cc; have zt := Bt.size; (first | have hA0 := A0.lt | skip); (first | have A0 := A0.below cc | have A0 := A0.drew.below cc | have A0 := At.born cc | have A0 := At.bornD cc | skip); clear cc)
        | (go_at_call 18; refine (sameSurvey_any _ _ _ _ nst nst nl nl _ (by omega) (by omega) (by first | exact on.kr | exact (on.alloc _).kr) (hR.below (by repeat (first | with_reducible assumption | with_reducible exact Below.refl _ _ | with_reducible refine Below.setCell ?_ (by first | omega | (simp; done) | (simp; omega)) _ | with_reducible refine Below.alloc ?_ (by first | omega | (simp; done) | (simp; omega)) _ | with_reducible refine Below.drew ?_)))).mono ?_; rintro e ws ⟨rfl, cc⟩; rw [dec_yes rfl]; have Bs := kept_next (V := w16) (by repeat (first | with_reducible assumption | with_reducible exact Below.refl _ _ | with_reducible refine Below.setCell ?_ (by first | omega | (simp; done) | (simp; omega)) _ | with_reducible refine Below.alloc ?_ (by first | omega | (simp; done) | (simp; omega)) _ | with_reducible refine Below.drew ?_)) cc; have zs := Bs.size; (first | have hA0 := A0.lt | skip); (first | have A0 := A0.below cc | have A0 := A0.drew.below cc | have A0 := At.born cc | have A0 := At.bornD cc | skip); clear cc)
        | (have _t := oq; clear _t; go_at_call 32; refine (KM.out _ (hs.below (by repeat (first | with_reducible assumption | with_reducible exact Below.refl _ _ | with_reducible refine Below.setCell ?_ (by first | omega | (simp; done) | (simp; omega)) _ | with_reducible refine Below.alloc ?_ (by first | omega | (simp; done) | (simp; omega)) _ | with_reducible refine Below.drew ?_)))).mono ?_; rintro e wm ⟨vm, rfl, om, cc⟩; obtain ⟨am, cm, rfl⟩ := om.sl; have Bm := kept_next (V := w16) (by repeat (first | with_reducible assumption | with_reducible exact Below.refl _ _ | with_reducible refine Below.setCell ?_ (by first | omega | (simp; done) | (simp; omega)) _ | with_reducible refine Below.alloc ?_ (by first | omega | (simp; done) | (simp; omega)) _ | with_reducible refine Below.drew ?_)) cc; have zm := Bm.size; (first | have hA0 := A0.lt | skip); (first | have A0 := A0.below cc | have A0 := A0.drew.below cc | have A0 := At.born cc | have A0 := At.bornD cc | skip); (first | have oq := oq.below cc | have oq := oq.below (al_then cc) | skip); clear cc)
        | (have _t := on; clear _t; go_at_call 32; refine (KZ.out _ (hZ.below (by repeat (first | with_reducible assumption | with_reducible exact Below.refl _ _ | with_reducible refine Below.setCell ?_ (by first | omega | (simp; done) | (simp; omega)) _ | with_reducible refine Below.alloc ?_ (by first | omega | (simp; done) | (simp; omega)) _ | with_reducible refine Below.drew ?_)))).mono ?_; rintro e wq ⟨vq, rfl, oq, cc⟩; obtain ⟨aq, cq, rfl⟩ := oq.sl; have Bq := kept_next (V := w16) (by repeat (first | with_reducible assumption | with_reducible exact Below.refl _ _ | with_reducible refine Below.setCell ?_ (by first | omega | (simp; done) | (simp; omega)) _ | with_reducible refine Below.alloc ?_ (by first | omega | (simp; done) | (simp; omega)) _ | with_reducible refine Below.drew ?_)) cc; have zq := Bq.size; (first | have hA0 := A0.lt | skip); (first | have A0 := A0.below cc | have A0 := A0.drew.below cc | have A0 := At.born cc | have A0 := At.bornD cc | skip); clear cc)
        | (go_at_call 32; refine (KN.out _ (hT.below (by repeat (first | with_reducible assumption | with_reducible exact Below.refl _ _ | with_reducible refine Below.setCell ?_ (by first | omega | (simp; done) | (simp; omega)) _ | with_reducible refine Below.alloc ?_ (by first | omega | (simp; done) | (simp; omega)) _ | with_reducible refine Below.drew ?_)))).mono ?_; rintro e wn ⟨vn, rfl, on, cc⟩; obtain ⟨an, cn, rfl⟩ := on.sl; have Bn := kept_next (V := w16) (by repeat (first | with_reducible assumption | with_reducible exact Below.refl _ _ | with_reducible refine Below.setCell ?_ (by first | omega | (simp; done) | (simp; omega)) _ | with_reducible refine Below.alloc ?_ (by first | omega | (simp; done) | (simp; omega)) _ | with_reducible refine Below.drew ?_)) cc; have zn := Bn.size; (first | have hA0 := A0.lt | skip); (first | have A0 := A0.below cc | have A0 := A0.drew.below cc | have A0 := At.born cc | have A0 := At.bornD cc | skip); clear cc)
        | (go_at_call 29; refine (bookValid_any xT1 xT2 xT3 yT1 yT2 yT3 rst rl rd ru _ (by omega) (by omega) (by omega) (hT.below (by repeat (first | with_reducible assumption | with_reducible exact Below.refl _ _ | with_reducible refine Below.setCell ?_ (by first | omega | (simp; done) | (simp; omega)) _ | with_reducible refine Below.alloc ?_ (by first | omega | (simp; done) | (simp; omega)) _ | with_reducible refine Below.drew ?_)))).mono ?_; rintro e wv ⟨rfl, cc⟩; rw [q4]; have Bv := kept_next (V := w16) (by repeat (first | with_reducible assumption | with_reducible exact Below.refl _ _ | with_reducible refine Below.setCell ?_ (by first | omega | (simp; done) | (simp; omega)) _ | with_reducible refine Below.alloc ?_ (by first | omega | (simp; done) | (simp; omega)) _ | with_reducible refine Below.drew ?_)) cc; have zv := Bv.size; (first | have hA0 := A0.lt | skip); (first | have A0 := A0.below cc | have A0 := A0.drew.below cc | have A0 := At.born cc | have A0 := At.bornD cc | skip); clear cc))
      all_goals (go_wp2_with fail; go_ret)
      all_goals exact ⟨rfl, bt.trans (Below.mono (by repeat (first | with_reducible assumption | with_reducible exact Below.refl _ _ | with_reducible refine Below.setCell ?_ (by first | omega | (simp; done) | (simp; omega)) _ | with_reducible refine Below.alloc ?_ (by first | omega | (simp; done) | (simp; omega)) _ | with_reducible refine Below.drew ?_)) bt.size)⟩
end Go.Proofs.YtdgnndlhnblenaaDoor
