/- The law FnDeedDo, walked: every deed can be undone (written by wip/bin/gen_vb1.py). -/
import Derived.Test.YtdgnndlhnblenaaDoorR3
import Derived.Test.YtdgnndlhnblenaaDoorT1
import Derived.Test.YtdgnndlhnblenaaDoorK7
import Derived.Test.YtdgnndlhnblenaaDoorK8
set_option linter.unusedSimpArgs false
set_option linter.unusedVariables false
namespace Go.Proofs.YtdgnndlhnblenaaDoor
open Go Go.RowKit Go.Sort

theorem ddDo_same {s : Sv} {d : Dd} (h : svOk s = true) (h2 : (ddDo s d).2 = false) : (ddDo s d).1 = s := by
  cases ht : ddTry s d with
  | none => rw [ddDo_none h ht]
  | some t =>
    cases hk : svOk t
    · rw [ddDo_fail h ht hk]
    · rw [ddDo_some h ht hk] at h2; cases h2

set_option maxRecDepth 100000 in
set_option maxHeartbeats 4000000 in
theorem lawDeedDo (a : Option Addr) (n c : Nat) (w : World) (hc : n ≤ c) (hn : n ≤ 9223372036854775807) (hb : n ≤ 1048576 → Bytes w a n) (hpw : Pow w) :
    Calls Tryd.prog 3 #[.slice a n c] w fun e w' => e = .returned (.bool true) ∧ Below w.heap.size w w' := by
  by_cases hbig : 1048576 < n
  · go_enter Tryd.func3, Tryd.ntmps3
    go_wp2_with fail
    go_ret
    exact ⟨rfl, (by repeat (first | with_reducible assumption | exact Below.refl _ _ | refine below_drewN ?_ _ | refine Below.drew ?_ | refine Below.alloc ?_ (by first | omega | (simp; done) | (simp; omega)) _ | refine Below.setCell ?_ (by first | omega | (simp; done) | (simp; omega)) _))⟩
  replace hb := hb (by omega)
  go_enter Tryd.func3, Tryd.ntmps3
  go_wp2_with fail
  refine (drawDeedDo_any a n c w hc (by omega) hb).mono ?_
  rintro e w1 ⟨⟨st, l⟩, v, ⟨kd, ix, ⟨g1, g2, g3, g4, g5⟩⟩, rfl, o, hl, hst, bt⟩
  obtain ⟨av, cv, rfl⟩ := o.sl
  simp only at o hl hst ⊢
  have pw := hpw.below bt
  have hcap := o.caps
  have hs := o.kr
  clear o hb hpw hn hc
  obtain ⟨⟨⟨tst, tl⟩, ok⟩, hp⟩ : ∃ p, ddDo ⟨st, l⟩ ⟨kd, ix, ⟨g1, g2, g3, g4, g5⟩⟩ = p := ⟨_, rfl⟩
  have htl : tl.length ≤ 9 := by have := ddDo_len ⟨st, l⟩ ⟨kd, ix, ⟨g1, g2, g3, g4, g5⟩⟩; rw [hp] at this; exact this
  have KI := Lib.hid (show ∀ (w' : World), Legs w' av l → Calls Tryd.prog 16 #[.agg #[.int .i64 st, .slice av l.length cv], .agg #[.int .i64 kd, .int .i64 ix, .int .i64 g1, .int .i64 g2, .int .i64 g3, .int .i64 g4, .int .i64 g5]] w' (SvOut (⟨tst, tl⟩, ok) w') from fun w' h => by
    have := deedDo_any av cv st l ⟨kd, ix, ⟨g1, g2, g3, g4, g5⟩⟩ w' (by omega) h
    rw [hp] at this
    exact this)
  have KS := Lib.hid (show ∀ (w' : World), Legs w' av l → Calls Tryd.prog 17 #[.agg #[.int .i64 st, .slice av l.length cv], .agg #[.int .i64 kd, .int .i64 ix, .int .i64 g1, .int .i64 g2, .int .i64 g3, .int .i64 g4, .int .i64 g5]] w' (SvOut (⟨tst, tl⟩, ok) w') from fun w' h => by
    have := sdeedDo_any av cv st l ⟨kd, ix, ⟨g1, g2, g3, g4, g5⟩⟩ w' (by omega) hcap.1 hcap.2.1 hcap.2.2 h
    rw [hp] at this
    exact this)
  have HP := Lib.hid hp
  clear hp hcap
  go_upto_region 4 with fail
  obtain ⟨BS, hY⟩ : ∃ Y, w1.heap.size = Y := ⟨_, rfl⟩
  obtain ⟨w2, hV⟩ : ∃ V, V = (w1.alloc (.cells #[.int .i64 st, .slice av l.length cv] 25)).alloc (.cells #[.int .i64 kd, .int .i64 ix, .int .i64 g1, .int .i64 g2, .int .i64 g3, .int .i64 g4, .int .i64 g5] 29) := ⟨_, rfl⟩
  have c : Below w1.heap.size w1 w2 := by rw [hV]; exact (by repeat (first | with_reducible assumption | exact Below.refl _ _ | refine below_drewN ?_ _ | refine Below.drew ?_ | refine Below.alloc ?_ (by first | omega | (simp; done) | (simp; omega)) _ | refine Below.setCell ?_ (by first | omega | (simp; done) | (simp; omega)) _))
  have S0 : At w2 BS [.int .i64 st, .slice av l.length cv] := by rw [hV]; exact (At.new _ _ _ hY.symm rfl).alloc _
  have D0 : At w2 (BS + 1) [.int .i64 kd, .int .i64 ix, .int .i64 g1, .int .i64 g2, .int .i64 g3, .int .i64 g4, .int .i64 g5] := by rw [hV]; exact At.new _ _ _ (by simp [hY]) rfl
  rw [hY, ← hV]
  clear hV hY
  replace pw := pw.below c
  replace hs := hs.below c
  replace bt := bt.trans (c.mono bt.size)
  clear c
  obtain ⟨tS00, tS01, tS02, tS03⟩ := id S0.facts2
  obtain ⟨tD00, tD01, tD02, tD03, tD04, tD05, tD06, tD07, tD08⟩ := id D0.facts7
  go_wp2_with fail
  refine (KI.out _ hs).mono ?_
  rintro e w3 ⟨vT, rfl, oT, c⟩
  clear tS00 tS01 tS02 tS03 tD00 tD01 tD02 tD03 tD04 tD05 tD06 tD07 tD08
  obtain ⟨aT, cT, rfl⟩ := oT.sl
  simp only at oT ⊢
  replace pw := pw.below c
  replace hs := hs.below c
  replace S0 := S0.below c
  replace D0 := D0.below c
  replace bt := bt.trans (c.mono bt.size)
  clear c
  go_upto_region 5 with fail
  obtain ⟨BT0, hY⟩ : ∃ Y, w3.heap.size = Y := ⟨_, rfl⟩
  obtain ⟨w4, hV⟩ : ∃ V, V = w3.alloc (.cells #[.int .i64 tst, .slice aT tl.length cT] 25) := ⟨_, rfl⟩
  have c : Below w3.heap.size w3 w4 := by rw [hV]; exact (by repeat (first | with_reducible assumption | exact Below.refl _ _ | refine below_drewN ?_ _ | refine Below.drew ?_ | refine Below.alloc ?_ (by first | omega | (simp; done) | (simp; omega)) _ | refine Below.setCell ?_ (by first | omega | (simp; done) | (simp; omega)) _))
  have T0 : At w4 BT0 [.int .i64 tst, .slice aT tl.length cT] := by rw [hV]; exact At.new _ _ _ hY.symm rfl
  rw [hY, ← hV]
  clear hV hY
  replace pw := pw.below c
  replace hs := hs.below c
  replace S0 := S0.below c
  replace D0 := D0.below c
  replace oT := oT.below c
  replace bt := bt.trans (c.mono bt.size)
  clear c
  obtain ⟨tS00, tS01, tS02, tS03⟩ := id S0.facts2
  obtain ⟨tD00, tD01, tD02, tD03, tD04, tD05, tD06, tD07, tD08⟩ := id D0.facts7
  go_wp2_with fail
  refine (KS.out _ hs).mono ?_
  rintro e w5 ⟨vU, rfl, oU, c⟩
  clear tS00 tS01 tS02 tS03 tD00 tD01 tD02 tD03 tD04 tD05 tD06 tD07 tD08
  obtain ⟨aU, cU, rfl⟩ := oU.sl
  simp only at oU ⊢
  replace pw := pw.below c
  replace hs := hs.below c
  replace S0 := S0.below c
  replace D0 := D0.below c
  replace oT := oT.below c
  replace T0 := T0.below c
  replace bt := bt.trans (c.mono bt.size)
  clear c
  go_upto_region 6 with fail
  obtain ⟨BU0, hY⟩ : ∃ Y, w5.heap.size = Y := ⟨_, rfl⟩
  obtain ⟨w6, hV⟩ : ∃ V, V = w5.alloc (.cells #[.int .i64 tst, .slice aU tl.length cU] 25) := ⟨_, rfl⟩
  have c : Below w5.heap.size w5 w6 := by rw [hV]; exact (by repeat (first | with_reducible assumption | exact Below.refl _ _ | refine below_drewN ?_ _ | refine Below.drew ?_ | refine Below.alloc ?_ (by first | omega | (simp; done) | (simp; omega)) _ | refine Below.setCell ?_ (by first | omega | (simp; done) | (simp; omega)) _))
  have U0 : At w6 BU0 [.int .i64 tst, .slice aU tl.length cU] := by rw [hV]; exact At.new _ _ _ hY.symm rfl
  rw [hY, ← hV]
  clear hV hY
  replace pw := pw.below c
  replace hs := hs.below c
  replace S0 := S0.below c
  replace D0 := D0.below c
  replace oT := oT.below c
  replace T0 := T0.below c
  replace oU := oU.below c
  replace bt := bt.trans (c.mono bt.size)
  clear c
  have hok : (ok != ok) = false := by simp
  obtain ⟨tT00, tT01, tT02, tT03⟩ := id T0.facts2
  obtain ⟨tU00, tU01, tU02, tU03⟩ := id U0.facts2
  go_wp2_with fail
  refine (sameSurvey_any _ _ _ _ tst tst tl tl _ (by omega) (by omega) oT.kr oU.kr).mono ?_
  rintro e w7 ⟨rfl, c⟩
  clear tT00 tT01 tT02 tT03 tU00 tU01 tU02 tU03
  rw [dec_yes rfl]
  replace pw := pw.below c
  replace hs := hs.below c
  replace S0 := S0.below c
  replace D0 := D0.below c
  replace oT := oT.below c
  replace T0 := T0.below c
  replace oU := oU.below c
  replace U0 := U0.below c
  replace bt := bt.trans (c.mono bt.size)
  clear c
  clear oU U0
  cases ok with
  | false =>
    have hF : svOk ⟨st, l⟩ = true → (⟨tst, tl⟩ : Sv) = ⟨st, l⟩ := fun h => by
      have := ddDo_same (d := ⟨kd, ix, ⟨g1, g2, g3, g4, g5⟩⟩) h (by rw [HP.out])
      rw [HP.out] at this; exact this
    obtain ⟨E, hE⟩ : ∃ b, decide ((⟨tst, tl⟩ : Sv) = ⟨st, l⟩) = b := ⟨_, rfl⟩
    obtain ⟨tT00, tT01, tT02, tT03⟩ := id T0.facts2
    obtain ⟨tS00, tS01, tS02, tS03⟩ := id S0.facts2
    go_wp2_with fail
    refine (sameSurvey_any _ _ _ _ tst st tl l _ (by omega) (by omega) oT.kr hs).mono ?_
    rintro e w8 ⟨rfl, c⟩
    clear tT00 tT01 tT02 tT03 tS00 tS01 tS02 tS03
    rw [hE]
    replace pw := pw.below c
    replace hs := hs.below c
    replace S0 := S0.below c
    replace D0 := D0.below c
    replace oT := oT.below c
    replace T0 := T0.below c
    replace bt := bt.trans (c.mono bt.size)
    clear c
    cases E with
    | true =>
      clear hE hF
      go_wp2_with fail
      refine (alive_any _ pw).mono ?_
      rintro e w9 ⟨rfl, c⟩
      replace pw := pw.below c
      replace hs := hs.below c
      replace S0 := S0.below c
      replace D0 := D0.below c
      replace oT := oT.below c
      replace T0 := T0.below c
      replace bt := bt.trans (c.mono bt.size)
      clear c
      go_wp2_with fail
      go_ret
      exact ⟨rfl, bt⟩
    | false =>
      have hv : svOk ⟨st, l⟩ = false := by
        cases h : svOk ⟨st, l⟩
        · rfl
        · rw [dec_yes (hF h)] at hE; cases hE
      clear hE hF
      obtain ⟨tS00, tS01, tS02, tS03⟩ := id S0.facts2
      go_wp2_with fail
      refine (surveyValid_any _ _ st l _ (by omega) hs).mono ?_
      rintro e w10 ⟨rfl, c⟩
      clear tS00 tS01 tS02 tS03
      rw [hv]
      replace pw := pw.below c
      replace hs := hs.below c
      replace S0 := S0.below c
      replace D0 := D0.below c
      replace oT := oT.below c
      replace T0 := T0.below c
      replace bt := bt.trans (c.mono bt.size)
      clear c
      clear hv
      go_wp2_with fail
      refine (alive_any _ pw).mono ?_
      rintro e w11 ⟨rfl, c⟩
      replace pw := pw.below c
      replace hs := hs.below c
      replace S0 := S0.below c
      replace D0 := D0.below c
      replace oT := oT.below c
      replace T0 := T0.below c
      replace bt := bt.trans (c.mono bt.size)
      clear c
      go_wp2_with fail
      go_ret
      exact ⟨rfl, bt⟩
  | true =>
    obtain ⟨q1, q2, q3, -⟩ := do_back (s := ⟨st, l⟩) (d := ⟨kd, ix, ⟨g1, g2, g3, g4, g5⟩⟩) (by rw [HP.out])
    have q4 := (ddDo_ok (s := ⟨st, l⟩) (d := ⟨kd, ix, ⟨g1, g2, g3, g4, g5⟩⟩) (by rw [HP.out])).2.2
    obtain ⟨⟨⟨zk, zi, ⟨z1, z2, z3, z4, z5⟩⟩, cb⟩, hq⟩ : ∃ p, ddBack ⟨st, l⟩ ⟨kd, ix, ⟨g1, g2, g3, g4, g5⟩⟩ = p := ⟨_, rfl⟩
    rw [HP.out, hq] at q2
    rw [HP.out] at q3 q4
    rw [hq] at q1
    simp only at q1 q2 q3 q4
    subst q1
    have KB := Lib.hid (show ∀ (w' : World), Legs w' av l → Calls Tryd.prog 21 #[.agg #[.int .i64 st, .slice av l.length cv], .agg #[.int .i64 kd, .int .i64 ix, .int .i64 g1, .int .i64 g2, .int .i64 g3, .int .i64 g4, .int .i64 g5]] w' (DdOut (⟨zk, zi, ⟨z1, z2, z3, z4, z5⟩⟩, true) w') from fun w' h => by
      have := deedBack_any av cv st l ⟨kd, ix, ⟨g1, g2, g3, g4, g5⟩⟩ w' (by omega) h
      rw [hq] at this
      exact this)
    have KJ := Lib.hid (show ∀ (w' : World), Legs w' aT tl → Calls Tryd.prog 16 #[.agg #[.int .i64 tst, .slice aT tl.length cT], .agg #[.int .i64 zk, .int .i64 zi, .int .i64 z1, .int .i64 z2, .int .i64 z3, .int .i64 z4, .int .i64 z5]] w' (SvOut (⟨st, l⟩, true) w') from fun w' h => by
      have := deedDo_any aT cT tst tl ⟨zk, zi, ⟨z1, z2, z3, z4, z5⟩⟩ w' (by omega) h
      rw [q2] at this
      exact this)
    clear hq q2 HP
    obtain ⟨tS00, tS01, tS02, tS03⟩ := id S0.facts2
    obtain ⟨tD00, tD01, tD02, tD03, tD04, tD05, tD06, tD07, tD08⟩ := id D0.facts7
    go_wp2_with fail
    refine (KB.out _ hs).mono ?_
    rintro e w12 ⟨rfl, c⟩
    clear tS00 tS01 tS02 tS03 tD00 tD01 tD02 tD03 tD04 tD05 tD06 tD07 tD08
    simp only [Dd.val]
    replace pw := pw.below c
    replace hs := hs.below c
    replace S0 := S0.below c
    replace D0 := D0.below c
    replace oT := oT.below c
    replace T0 := T0.below c
    replace bt := bt.trans (c.mono bt.size)
    clear c
    go_upto_region 11 with fail
    obtain ⟨BQ0, hY⟩ : ∃ Y, w12.heap.size = Y := ⟨_, rfl⟩
    obtain ⟨w13, hV⟩ : ∃ V, V = w12.alloc (.cells #[.int .i64 zk, .int .i64 zi, .int .i64 z1, .int .i64 z2, .int .i64 z3, .int .i64 z4, .int .i64 z5] 29) := ⟨_, rfl⟩
    have c : Below w12.heap.size w12 w13 := by rw [hV]; exact (by repeat (first | with_reducible assumption | exact Below.refl _ _ | refine below_drewN ?_ _ | refine Below.drew ?_ | refine Below.alloc ?_ (by first | omega | (simp; done) | (simp; omega)) _ | refine Below.setCell ?_ (by first | omega | (simp; done) | (simp; omega)) _))
    have Q0 : At w13 BQ0 [.int .i64 zk, .int .i64 zi, .int .i64 z1, .int .i64 z2, .int .i64 z3, .int .i64 z4, .int .i64 z5] := by rw [hV]; exact At.new _ _ _ hY.symm rfl
    rw [hY, ← hV]
    clear hV hY
    replace pw := pw.below c
    replace hs := hs.below c
    replace S0 := S0.below c
    replace D0 := D0.below c
    replace oT := oT.below c
    replace T0 := T0.below c
    replace bt := bt.trans (c.mono bt.size)
    clear c
    obtain ⟨tT00, tT01, tT02, tT03⟩ := id T0.facts2
    obtain ⟨tQ00, tQ01, tQ02, tQ03, tQ04, tQ05, tQ06, tQ07, tQ08⟩ := id Q0.facts7
    go_wp2_with fail
    refine (KJ.out _ oT.kr).mono ?_
    rintro e w14 ⟨vY, rfl, oY, c⟩
    clear tT00 tT01 tT02 tT03 tQ00 tQ01 tQ02 tQ03 tQ04 tQ05 tQ06 tQ07 tQ08
    obtain ⟨aY, cY, rfl⟩ := oY.sl
    simp only at oY ⊢
    replace pw := pw.below c
    replace hs := hs.below c
    replace S0 := S0.below c
    replace D0 := D0.below c
    replace oT := oT.below c
    replace T0 := T0.below c
    replace Q0 := Q0.below c
    replace bt := bt.trans (c.mono bt.size)
    clear c
    go_upto_region 12 with fail
    obtain ⟨BY0, hY⟩ : ∃ Y, w14.heap.size = Y := ⟨_, rfl⟩
    obtain ⟨w15, hV⟩ : ∃ V, V = w14.alloc (.cells #[.int .i64 st, .slice aY l.length cY] 25) := ⟨_, rfl⟩
    have c : Below w14.heap.size w14 w15 := by rw [hV]; exact (by repeat (first | with_reducible assumption | exact Below.refl _ _ | refine below_drewN ?_ _ | refine Below.drew ?_ | refine Below.alloc ?_ (by first | omega | (simp; done) | (simp; omega)) _ | refine Below.setCell ?_ (by first | omega | (simp; done) | (simp; omega)) _))
    have Y0 : At w15 BY0 [.int .i64 st, .slice aY l.length cY] := by rw [hV]; exact At.new _ _ _ hY.symm rfl
    rw [hY, ← hV]
    clear hV hY
    replace pw := pw.below c
    replace hs := hs.below c
    replace S0 := S0.below c
    replace D0 := D0.below c
    replace oT := oT.below c
    replace T0 := T0.below c
    replace Q0 := Q0.below c
    replace oY := oY.below c
    replace bt := bt.trans (c.mono bt.size)
    clear c
    obtain ⟨tT00, tT01, tT02, tT03⟩ := id T0.facts2
    go_wp2_with fail
    refine (surveyValid_any _ _ tst tl _ (by omega) oT.kr).mono ?_
    rintro e w16 ⟨rfl, c⟩
    clear tT00 tT01 tT02 tT03
    rw [q4]
    replace pw := pw.below c
    replace hs := hs.below c
    replace S0 := S0.below c
    replace D0 := D0.below c
    replace oT := oT.below c
    replace T0 := T0.below c
    replace Q0 := Q0.below c
    replace oY := oY.below c
    replace Y0 := Y0.below c
    replace bt := bt.trans (c.mono bt.size)
    clear c
    obtain ⟨tY00, tY01, tY02, tY03⟩ := id Y0.facts2
    obtain ⟨tS00, tS01, tS02, tS03⟩ := id S0.facts2
    go_wp2_with fail
    refine (sameSurvey_any _ _ _ _ st st l l _ (by omega) (by omega) oY.kr hs).mono ?_
    rintro e w17 ⟨rfl, c⟩
    clear tY00 tY01 tY02 tY03 tS00 tS01 tS02 tS03
    rw [dec_yes rfl]
    replace pw := pw.below c
    replace hs := hs.below c
    replace S0 := S0.below c
    replace D0 := D0.below c
    replace oT := oT.below c
    replace T0 := T0.below c
    replace Q0 := Q0.below c
    replace oY := oY.below c
    replace Y0 := Y0.below c
    replace bt := bt.trans (c.mono bt.size)
    clear c
    obtain ⟨tT00, tT01, tT02, tT03⟩ := id T0.facts2
    obtain ⟨tS00, tS01, tS02, tS03⟩ := id S0.facts2
    go_wp2_with fail
    refine (sameSurvey_any _ _ _ _ tst st tl l _ (by omega) (by omega) oT.kr hs).mono ?_
    rintro e w18 ⟨rfl, c⟩
    clear tT00 tT01 tT02 tT03 tS00 tS01 tS02 tS03
    rw [dec_no q3]
    replace pw := pw.below c
    replace hs := hs.below c
    replace S0 := S0.below c
    replace D0 := D0.below c
    replace oT := oT.below c
    replace T0 := T0.below c
    replace Q0 := Q0.below c
    replace oY := oY.below c
    replace Y0 := Y0.below c
    replace bt := bt.trans (c.mono bt.size)
    clear c
    clear q3 q4
    go_wp2_with fail
    go_ret
    exact ⟨rfl, bt⟩
end Go.Proofs.YtdgnndlhnblenaaDoor
