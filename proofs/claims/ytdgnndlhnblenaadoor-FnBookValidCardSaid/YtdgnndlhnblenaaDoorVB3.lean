/- The law FnBookRedo, walked: what is done again can be undone (written by wip/bin/gen_vb3.py). -/
import Derived.Test.YtdgnndlhnblenaaDoorR4
import Derived.Test.YtdgnndlhnblenaaDoorT1
import Derived.Test.YtdgnndlhnblenaaDoorK7
set_option linter.unusedSimpArgs false
set_option linter.unusedVariables false
namespace Go.Proofs.YtdgnndlhnblenaaDoor
open Go Go.RowKit Go.Sort

theorem bkRedoNo {b : Bk} (h : (bkRedo b).2 = false) (hb : bkOk b = true) : (bkRedo b).1 = b ∧ b.undone.length = 0 := by
  unfold bkRedo at h ⊢
  rw [if_pos hb] at h ⊢
  split at h
  · rename_i h0; rw [if_pos h0]; exact ⟨rfl, h0⟩
  · cases h
theorem bkRedoYes {b : Bk} (h : (bkRedo b).2 = true) : bkOk b = true ∧ b.undone.length ≠ 0 := by
  unfold bkRedo at h
  cases hb : bkOk b
  · rw [hb] at h; cases h
  · rw [hb, if_pos rfl] at h
    split at h
    · cases h
    · rename_i h0; exact ⟨rfl, h0⟩
theorem bkRedoBad {b : Bk} (hb : bkOk b = false) : (bkRedo b).1 = zeroBk := by unfold bkRedo; rw [hb]; rfl
theorem bkUndoNo {b : Bk} (h : (bkUndo b).2 = false) (hb : bkOk b = true) : (bkUndo b).1 = b ∧ b.done.length = 0 := by
  unfold bkUndo at h ⊢
  rw [if_pos hb] at h ⊢
  split at h
  · rename_i h0; rw [if_pos h0]; exact ⟨rfl, h0⟩
  · cases h
theorem bkUndoYes {b : Bk} (h : (bkUndo b).2 = true) : bkOk b = true ∧ b.done.length ≠ 0 := by
  unfold bkUndo at h
  cases hb : bkOk b
  · rw [hb] at h; cases h
  · rw [hb, if_pos rfl] at h
    split at h
    · cases h
    · rename_i h0; exact ⟨rfl, h0⟩
theorem bkUndoBad {b : Bk} (hb : bkOk b = false) : (bkUndo b).1 = zeroBk := by unfold bkUndo; rw [hb]; rfl
theorem bkDoNo {b : Bk} {d : Dd} (h : (bkDo b d).2 = false) (hb : bkOk b = true) : (bkDo b d).1 = b := by
  unfold bkDo at h ⊢
  rw [if_pos hb] at h ⊢
  split at h
  · cases h
  · rename_i h0; rw [if_neg h0]

set_option maxRecDepth 100000 in
set_option maxHeartbeats 4000000 in
theorem lawBookRedo (a : Option Addr) (n c : Nat) (w : World) (hc : n ≤ c) (hn : n ≤ 9223372036854775807) (hb : n ≤ 1048576 → Bytes w a n) (hpw : Pow w) :
    Calls Tryd.prog 8 #[.slice a n c] w fun e w' => e = .returned (.bool true) ∧ Below w.heap.size w w' := by
  by_cases hbig : 1048576 < n
  · go_enter Tryd.func8, Tryd.ntmps8
    go_wp2_with fail
    go_ret
    exact ⟨rfl, (by repeat (first | with_reducible assumption | exact Below.refl _ _ | refine below_drewN ?_ _ | refine Below.drew ?_ | refine Below.alloc ?_ (by first | omega | (simp; done) | (simp; omega)) _ | refine Below.setCell ?_ (by first | omega | (simp; done) | (simp; omega)) _))⟩
  replace hb := hb (by omega)
  go_enter Tryd.func8, Tryd.ntmps8
  go_wp2_with fail
  refine (drawBookRedo_any a n c w hc (by omega) hb).mono ?_
  rintro e w1 ⟨⟨⟨st, l⟩, d, u⟩, v1, v2, v3, rfl, o, hsz, bt⟩
  obtain ⟨a1, c1, a2, c2, a3, c3, rfl, rfl, rfl⟩ := o.forms
  simp only at o ⊢
  have pw := hpw.below bt
  have hs := o.kr
  have hl : l.length ≤ 10 := hsz.1
  have hdu : d.length + u.length ≤ 41 := hsz.2.1
  clear o hb hpw hn hc hsz
  obtain ⟨⟨⟨⟨rst, rl⟩, rd, ru⟩, ok⟩, hp⟩ : ∃ p, bkRedo ⟨⟨st, l⟩, d, u⟩ = p := ⟨_, rfl⟩
  have hlr : rl.length ≤ 9 ∧ rd.length ≤ 41 ∧ ru.length ≤ 41 := by have := bkRedo_len ⟨⟨st, l⟩, d, u⟩; rw [hp] at this; exact this
  have KI := Lib.hid (show ∀ (w' : World), RdB w' a1 a2 a3 ⟨⟨st, l⟩, d, u⟩ → Calls Tryd.prog 35 #[.agg #[.int .i64 st, .slice a1 l.length c1, .slice a2 d.length c2, .slice a3 u.length c3]] w' (BkOut (⟨⟨rst, rl⟩, rd, ru⟩, ok) w') from fun w' h => by
    have := bookRedo_any a1 a2 a3 c1 c2 c3 st l d u w' (by omega) (by omega) (by omega) h
    rw [hp] at this
    exact this)
  have KS := Lib.hid (show ∀ (w' : World), RdB w' a1 a2 a3 ⟨⟨st, l⟩, d, u⟩ → Calls Tryd.prog 36 #[.agg #[.int .i64 st, .slice a1 l.length c1, .slice a2 d.length c2, .slice a3 u.length c3]] w' (BkOut (⟨⟨rst, rl⟩, rd, ru⟩, ok) w') from fun w' h => by
    have := sbookRedo_any a1 a2 a3 c1 c2 c3 st l d u w' (by omega) (by omega) (by omega) h
    rw [hp] at this
    exact this)
  have HP := Lib.hid hp
  clear hp
  go_upto_region 4 with fail
  obtain ⟨BB0, hY⟩ : ∃ Y, w1.heap.size = Y := ⟨_, rfl⟩
  obtain ⟨w2, hV⟩ : ∃ V, V = w1.alloc (.cells #[.int .i64 st, .slice a1 l.length c1, .slice a2 d.length c2, .slice a3 u.length c3] 46) := ⟨_, rfl⟩
  have c : Below w1.heap.size w1 w2 := by rw [hV]; exact (by repeat (first | with_reducible assumption | exact Below.refl _ _ | refine below_drewN ?_ _ | refine Below.drew ?_ | refine Below.alloc ?_ (by first | omega | (simp; done) | (simp; omega)) _ | refine Below.setCell ?_ (by first | omega | (simp; done) | (simp; omega)) _))
  have B0 : At w2 BB0 [.int .i64 st, .slice a1 l.length c1, .slice a2 d.length c2, .slice a3 u.length c3] := by rw [hV]; exact At.new _ _ _ hY.symm rfl
  rw [hY, ← hV]
  clear hV hY
  replace pw := pw.below c
  replace hs := hs.below c
  replace bt := bt.trans (c.mono bt.size)
  clear c
  obtain ⟨tB00, tB01, tB02, tB03, tB04, tB05⟩ := id B0.facts4
  go_wp2_with fail
  refine (KI.out _ hs).mono ?_
  rintro e w3 ⟨v1T, v2T, v3T, rfl, oT, c⟩
  clear tB00 tB01 tB02 tB03 tB04 tB05
  obtain ⟨xT1, yT1, xT2, yT2, xT3, yT3, rfl, rfl, rfl⟩ := oT.forms
  simp only at oT ⊢
  replace pw := pw.below c
  replace hs := hs.below c
  replace B0 := B0.below c
  replace bt := bt.trans (c.mono bt.size)
  clear c
  go_upto_region 5 with fail
  obtain ⟨BT0, hY⟩ : ∃ Y, w3.heap.size = Y := ⟨_, rfl⟩
  obtain ⟨w4, hV⟩ : ∃ V, V = w3.alloc (.cells #[.int .i64 rst, .slice xT1 rl.length yT1, .slice xT2 rd.length yT2, .slice xT3 ru.length yT3] 46) := ⟨_, rfl⟩
  have c : Below w3.heap.size w3 w4 := by rw [hV]; exact (by repeat (first | with_reducible assumption | exact Below.refl _ _ | refine below_drewN ?_ _ | refine Below.drew ?_ | refine Below.alloc ?_ (by first | omega | (simp; done) | (simp; omega)) _ | refine Below.setCell ?_ (by first | omega | (simp; done) | (simp; omega)) _))
  have T0 : At w4 BT0 [.int .i64 rst, .slice xT1 rl.length yT1, .slice xT2 rd.length yT2, .slice xT3 ru.length yT3] := by rw [hV]; exact At.new _ _ _ hY.symm rfl
  rw [hY, ← hV]
  clear hV hY
  replace pw := pw.below c
  replace hs := hs.below c
  replace B0 := B0.below c
  replace oT := oT.below c
  replace bt := bt.trans (c.mono bt.size)
  clear c
  obtain ⟨tB00, tB01, tB02, tB03, tB04, tB05⟩ := id B0.facts4
  go_wp2_with fail
  refine (KS.out _ hs).mono ?_
  rintro e w5 ⟨v1U, v2U, v3U, rfl, oU, c⟩
  clear tB00 tB01 tB02 tB03 tB04 tB05
  obtain ⟨xU1, yU1, xU2, yU2, xU3, yU3, rfl, rfl, rfl⟩ := oU.forms
  simp only at oU ⊢
  replace pw := pw.below c
  replace hs := hs.below c
  replace B0 := B0.below c
  replace oT := oT.below c
  replace T0 := T0.below c
  replace bt := bt.trans (c.mono bt.size)
  clear c
  go_upto_region 6 with fail
  obtain ⟨BU0, hY⟩ : ∃ Y, w5.heap.size = Y := ⟨_, rfl⟩
  obtain ⟨w6, hV⟩ : ∃ V, V = w5.alloc (.cells #[.int .i64 rst, .slice xU1 rl.length yU1, .slice xU2 rd.length yU2, .slice xU3 ru.length yU3] 46) := ⟨_, rfl⟩
  have c : Below w5.heap.size w5 w6 := by rw [hV]; exact (by repeat (first | with_reducible assumption | exact Below.refl _ _ | refine below_drewN ?_ _ | refine Below.drew ?_ | refine Below.alloc ?_ (by first | omega | (simp; done) | (simp; omega)) _ | refine Below.setCell ?_ (by first | omega | (simp; done) | (simp; omega)) _))
  have U0 : At w6 BU0 [.int .i64 rst, .slice xU1 rl.length yU1, .slice xU2 rd.length yU2, .slice xU3 ru.length yU3] := by rw [hV]; exact At.new _ _ _ hY.symm rfl
  rw [hY, ← hV]
  clear hV hY
  replace pw := pw.below c
  replace hs := hs.below c
  replace B0 := B0.below c
  replace oT := oT.below c
  replace T0 := T0.below c
  replace oU := oU.below c
  replace bt := bt.trans (c.mono bt.size)
  clear c
  have hok : (ok != ok) = false := by simp
  obtain ⟨tT00, tT01, tT02, tT03, tT04, tT05⟩ := id T0.facts4
  obtain ⟨tU00, tU01, tU02, tU03, tU04, tU05⟩ := id U0.facts4
  go_wp2_with fail
  refine (sameBook_any _ _ _ _ _ _ _ _ _ _ _ _ rst rst rl rl rd ru rd ru _ (by omega) (by omega) (by omega) (by omega) (by omega) (by omega) oT.kr oU.kr).mono ?_
  rintro e w7 ⟨rfl, c⟩
  clear tT00 tT01 tT02 tT03 tT04 tT05 tU00 tU01 tU02 tU03 tU04 tU05
  rw [dec_yes rfl]
  replace pw := pw.below c
  replace hs := hs.below c
  replace B0 := B0.below c
  replace oT := oT.below c
  replace T0 := T0.below c
  replace oU := oU.below c
  replace U0 := U0.below c
  replace bt := bt.trans (c.mono bt.size)
  clear c
  clear oU U0
  cases ok with
  | false =>
    have hF : bkOk ⟨⟨st, l⟩, d, u⟩ = true → (⟨⟨rst, rl⟩, rd, ru⟩ : Bk) = ⟨⟨st, l⟩, d, u⟩ ∧ u.length = 0 := fun h => by
      have := bkRedoNo (by rw [HP.out]) h
      rw [HP.out] at this; exact this
    have hG : bkOk ⟨⟨st, l⟩, d, u⟩ = false → (⟨⟨rst, rl⟩, rd, ru⟩ : Bk) = zeroBk := fun h => by
      have := bkRedoBad h
      rw [HP.out] at this; exact this
    obtain ⟨E, hE⟩ : ∃ e, decide ((⟨⟨rst, rl⟩, rd, ru⟩ : Bk) = ⟨⟨st, l⟩, d, u⟩) = e := ⟨_, rfl⟩
    have hU : E = true → u.length = 0 := fun h => by
      rw [h] at hE
      have he := of_decide_eq_true hE
      cases hb : bkOk ⟨⟨st, l⟩, d, u⟩
      · rw [hG hb] at he
        have := congrArg (fun q : Bk => q.undone.length) he
        simp only [zeroBk, List.length_nil] at this
        exact this.symm
      · exact (hF hb).2
    have hV : E = false → bkOk ⟨⟨st, l⟩, d, u⟩ = false := fun h => by
      rw [h] at hE
      cases hb : bkOk ⟨⟨st, l⟩, d, u⟩
      · rfl
      · rw [dec_yes (hF hb).1] at hE; cases hE
    clear hF hG HP
    obtain ⟨tT00, tT01, tT02, tT03, tT04, tT05⟩ := id T0.facts4
    obtain ⟨tB00, tB01, tB02, tB03, tB04, tB05⟩ := id B0.facts4
    go_wp2_with fail
    refine (sameBook_any _ _ _ _ _ _ _ _ _ _ _ _ rst st rl l rd ru d u _ (by omega) (by omega) (by omega) (by omega) (by omega) (by omega) oT.kr hs).mono ?_
    rintro e w8 ⟨rfl, c⟩
    clear tT00 tT01 tT02 tT03 tT04 tT05 tB00 tB01 tB02 tB03 tB04 tB05
    rw [hE]
    replace pw := pw.below c
    replace hs := hs.below c
    replace B0 := B0.below c
    replace oT := oT.below c
    replace T0 := T0.below c
    replace bt := bt.trans (c.mono bt.size)
    clear c
    clear hE
    cases E with
    | true =>
      have hu0 : ((u.length : Int) == 0) = true := by simp [hU rfl]
      clear hU hV
      obtain ⟨tB00, tB01, tB02, tB03, tB04, tB05⟩ := id B0.facts4
      go_wp2_with fail
      refine (alive_any _ pw).mono ?_
      rintro e w9 ⟨rfl, c⟩
      clear tB00 tB01 tB02 tB03 tB04 tB05
      replace pw := pw.below c
      replace hs := hs.below c
      replace B0 := B0.below c
      replace oT := oT.below c
      replace T0 := T0.below c
      replace bt := bt.trans (c.mono bt.size)
      clear c
      go_wp2_with fail
      go_ret
      exact ⟨rfl, bt⟩
    | false =>
      have hv := hV rfl
      clear hU hV
      obtain ⟨tB00, tB01, tB02, tB03, tB04, tB05⟩ := id B0.facts4
      go_wp2_with fail
      refine (bookValid_any a1 a2 a3 c1 c2 c3 st l d u _ (by omega) (by omega) (by omega) hs).mono ?_
      rintro e w10 ⟨rfl, c⟩
      clear tB00 tB01 tB02 tB03 tB04 tB05
      rw [hv]
      replace pw := pw.below c
      replace hs := hs.below c
      replace B0 := B0.below c
      replace oT := oT.below c
      replace T0 := T0.below c
      replace bt := bt.trans (c.mono bt.size)
      clear c
      clear hv
      go_wp2_with fail
      refine (alive_any _ pw).mono ?_
      rintro e w11 ⟨rfl, c⟩
      replace pw := pw.below c
      replace hs := hs.below c
      replace B0 := B0.below c
      replace oT := oT.below c
      replace T0 := T0.below c
      replace bt := bt.trans (c.mono bt.size)
      clear c
      go_wp2_with fail
      go_ret
      exact ⟨rfl, bt⟩
  | true =>
    obtain ⟨q1, q2⟩ := bkRedoYes (b := ⟨⟨st, l⟩, d, u⟩) (by rw [HP.out])
    have q3 := redo_undo q1 q2
    have q4 := (redo_can q1 q2).2.1
    rw [HP.out] at q3 q4
    simp only at q3 q4
    have KU := Lib.hid (show ∀ (w' : World), RdB w' xT1 xT2 xT3 ⟨⟨rst, rl⟩, rd, ru⟩ → Calls Tryd.prog 38 #[.agg #[.int .i64 rst, .slice xT1 rl.length yT1, .slice xT2 rd.length yT2, .slice xT3 ru.length yT3]] w' (BkOut (⟨⟨st, l⟩, d, u⟩, true) w') from fun w' h => by
      have := bookUndo_any xT1 xT2 xT3 yT1 yT2 yT3 rst rl rd ru w' (by omega) (by omega) (by omega) h
      rw [q3] at this
      exact this)
    clear HP q1 q2 q3
    obtain ⟨tT00, tT01, tT02, tT03, tT04, tT05⟩ := id T0.facts4
    go_wp2_with fail
    refine (KU.out _ oT.kr).mono ?_
    rintro e w12 ⟨v1Y, v2Y, v3Y, rfl, oY, c⟩
    clear tT00 tT01 tT02 tT03 tT04 tT05
    obtain ⟨xY1, yY1, xY2, yY2, xY3, yY3, rfl, rfl, rfl⟩ := oY.forms
    simp only at oY ⊢
    replace pw := pw.below c
    replace hs := hs.below c
    replace B0 := B0.below c
    replace oT := oT.below c
    replace T0 := T0.below c
    replace bt := bt.trans (c.mono bt.size)
    clear c
    go_upto_region 11 with fail
    obtain ⟨BY0, hY⟩ : ∃ Y, w12.heap.size = Y := ⟨_, rfl⟩
    obtain ⟨w13, hV⟩ : ∃ V, V = w12.alloc (.cells #[.int .i64 st, .slice xY1 l.length yY1, .slice xY2 d.length yY2, .slice xY3 u.length yY3] 46) := ⟨_, rfl⟩
    have c : Below w12.heap.size w12 w13 := by rw [hV]; exact (by repeat (first | with_reducible assumption | exact Below.refl _ _ | refine below_drewN ?_ _ | refine Below.drew ?_ | refine Below.alloc ?_ (by first | omega | (simp; done) | (simp; omega)) _ | refine Below.setCell ?_ (by first | omega | (simp; done) | (simp; omega)) _))
    have Y0 : At w13 BY0 [.int .i64 st, .slice xY1 l.length yY1, .slice xY2 d.length yY2, .slice xY3 u.length yY3] := by rw [hV]; exact At.new _ _ _ hY.symm rfl
    rw [hY, ← hV]
    clear hV hY
    replace pw := pw.below c
    replace hs := hs.below c
    replace B0 := B0.below c
    replace oT := oT.below c
    replace T0 := T0.below c
    replace oY := oY.below c
    replace bt := bt.trans (c.mono bt.size)
    clear c
    obtain ⟨tT00, tT01, tT02, tT03, tT04, tT05⟩ := id T0.facts4
    go_wp2_with fail
    refine (bookValid_any xT1 xT2 xT3 yT1 yT2 yT3 rst rl rd ru _ (by omega) (by omega) (by omega) oT.kr).mono ?_
    rintro e w14 ⟨rfl, c⟩
    clear tT00 tT01 tT02 tT03 tT04 tT05
    rw [q4]
    replace pw := pw.below c
    replace hs := hs.below c
    replace B0 := B0.below c
    replace oT := oT.below c
    replace T0 := T0.below c
    replace oY := oY.below c
    replace Y0 := Y0.below c
    replace bt := bt.trans (c.mono bt.size)
    clear c
    obtain ⟨tY00, tY01, tY02, tY03, tY04, tY05⟩ := id Y0.facts4
    obtain ⟨tB00, tB01, tB02, tB03, tB04, tB05⟩ := id B0.facts4
    go_wp2_with fail
    refine (sameBook_any _ _ _ _ _ _ _ _ _ _ _ _ st st l l d u d u _ (by omega) (by omega) (by omega) (by omega) (by omega) (by omega) oY.kr hs).mono ?_
    rintro e w15 ⟨rfl, c⟩
    clear tY00 tY01 tY02 tY03 tY04 tY05 tB00 tB01 tB02 tB03 tB04 tB05
    rw [dec_yes rfl]
    replace pw := pw.below c
    replace hs := hs.below c
    replace B0 := B0.below c
    replace oT := oT.below c
    replace T0 := T0.below c
    replace oY := oY.below c
    replace Y0 := Y0.below c
    replace bt := bt.trans (c.mono bt.size)
    clear c
    clear q4
    go_wp2_with fail
    go_ret
    exact ⟨rfl, bt⟩
end Go.Proofs.YtdgnndlhnblenaaDoor
