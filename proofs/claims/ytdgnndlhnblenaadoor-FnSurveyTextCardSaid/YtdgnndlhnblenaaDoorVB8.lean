/- The law FnSurveyText, walked: texts of surveys are read (written by wip/bin/gen_vb8.py). -/
import Derived.Test.YtdgnndlhnblenaaDoorR2
import Derived.Test.YtdgnndlhnblenaaDoorT1
import Derived.Test.YtdgnndlhnblenaaDoorT5
set_option linter.unusedSimpArgs false
set_option linter.unusedVariables false
namespace Go.Proofs.YtdgnndlhnblenaaDoor
open Go Go.RowKit Go.Sort

theorem surveyB_ne {s : Sv} (h : svOk s = true) : (surveyB s).toList.isEmpty = false := by
  have h1 := surveyB_pos h
  have h2 : (surveyB s).toList ≠ [] := fun e => h1 (by
    have : (surveyB s).size = (surveyB s).data.toList.length := rfl
    rw [this, ← Lib.toList_data, e]; rfl)
  cases e : (surveyB s).toList with
  | nil => exact absurd e h2
  | cons _ _ => rfl

set_option maxRecDepth 100000 in
set_option maxHeartbeats 4000000 in
theorem lawSurveyText (a : Option Addr) (n c : Nat) (w : World) (hc : n ≤ c) (hn : n ≤ 9223372036854775807) (hb : n ≤ 1048576 → Bytes w a n) (hpw : Lby w) :
    Calls Tryd.prog 11 #[.slice a n c] w fun e w' => e = .returned (.bool true) ∧ Below w.heap.size w w' := by
  by_cases hbig : 1048576 < n
  · go_enter Tryd.func11, Tryd.ntmps11
    go_wp2_with fail
    go_ret
    exact ⟨rfl, (by repeat (first | with_reducible assumption | exact Below.refl _ _ | refine below_drewN ?_ _ | refine Below.drew ?_ | refine Below.alloc ?_ (by first | omega | (simp; done) | (simp; omega)) _ | refine Below.setCell ?_ (by first | omega | (simp; done) | (simp; omega)) _))⟩
  replace hb := hb (by omega)
  go_enter Tryd.func11, Tryd.ntmps11
  go_wp2_with fail
  refine (drawSurveyText_any a n c w hc (by omega) hb).mono ?_
  rintro e w1 ⟨⟨st, l⟩, v, rfl, o, hl, hst, bt⟩
  obtain ⟨av, cv, rfl⟩ := o.sl
  simp only at o hl hst ⊢
  have lb := hpw.below bt
  have hs := o.kr
  clear o hb hpw hn hc
  go_upto_region 4 with fail
  obtain ⟨BS0, hY⟩ : ∃ Y, w1.heap.size = Y := ⟨_, rfl⟩
  obtain ⟨w2, hV⟩ : ∃ V, V = w1.alloc (.cells #[.int .i64 st, .slice av l.length cv] 25) := ⟨_, rfl⟩
  have c : Below w1.heap.size w1 w2 := by rw [hV]; exact (by repeat (first | with_reducible assumption | exact Below.refl _ _ | refine below_drewN ?_ _ | refine Below.drew ?_ | refine Below.alloc ?_ (by first | omega | (simp; done) | (simp; omega)) _ | refine Below.setCell ?_ (by first | omega | (simp; done) | (simp; omega)) _))
  have S0 : At w2 BS0 [.int .i64 st, .slice av l.length cv] := by rw [hV]; exact At.new _ _ _ hY.symm rfl
  rw [hY, ← hV]
  clear hV hY
  replace lb := lb.below c
  replace hs := hs.below c
  replace bt := bt.trans (c.mono bt.size)
  clear c
  obtain ⟨t, ht⟩ : ∃ t, surveyB ⟨st, l⟩ = t := ⟨_, rfl⟩
  obtain ⟨tS00, tS01, tS02, tS03⟩ := id S0.facts2
  go_wp2_with fail
  refine (surveyText_any _ _ st l _ (by omega) hs lb.pow).mono ?_
  rintro e w3 ⟨rfl, c⟩
  clear tS00 tS01 tS02 tS03
  rw [ht]
  replace lb := lb.below c
  replace hs := hs.below c
  replace S0 := S0.below c
  replace bt := bt.trans (c.mono bt.size)
  clear c
  obtain ⟨tS00, tS01, tS02, tS03⟩ := id S0.facts2
  go_wp2_with fail
  refine (ssurveyText_any _ _ st l _ (by omega) hs).mono ?_
  rintro e w4 ⟨rfl, c⟩
  clear tS00 tS01 tS02 tS03
  rw [ht]
  replace lb := lb.below c
  replace hs := hs.below c
  replace S0 := S0.below c
  replace bt := bt.trans (c.mono bt.size)
  clear c
  cases hv : svOk ⟨st, l⟩ with
  | false =>
    have he : t = ⟨#[]⟩ := by rw [← ht]; unfold surveyB; rw [hv]; rfl
    clear ht
    subst he
    obtain ⟨tS00, tS01, tS02, tS03⟩ := id S0.facts2
    go_wp2_with fail
    refine (surveyValid_any _ _ st l _ (by omega) hs).mono ?_
    rintro e w5 ⟨rfl, c⟩
    clear tS00 tS01 tS02 tS03
    rw [hv]
    replace lb := lb.below c
    replace hs := hs.below c
    replace S0 := S0.below c
    replace bt := bt.trans (c.mono bt.size)
    clear c
    clear hv
    go_wp2_with fail
    refine (alive_any _ lb.pow).mono ?_
    rintro e w6 ⟨rfl, c⟩
    replace lb := lb.below c
    replace hs := hs.below c
    replace S0 := S0.below c
    replace bt := bt.trans (c.mono bt.size)
    clear c
    go_wp2_with fail
    go_ret
    exact ⟨rfl, bt⟩
  | true =>
    have hne := surveyB_ne hv
    have hle := surveyB_le hv
    have hrd : rdSvD (surveyB ⟨st, l⟩) = (⟨st, l⟩, true) := by unfold rdSvD; rw [rdSv_iff.2 ⟨hv, rfl⟩]
    rw [ht] at hne hle hrd
    have KR := Lib.hid (show ∀ (w' : World), Lby w' → Calls Tryd.prog 47 #[.string t] w' (SvOut (⟨st, l⟩, true) w') from fun w' h => by
      have := readSurvey_any t w' (by omega) h
      rw [hrd] at this
      exact this)
    clear ht hv hrd hle
    go_wp2_with fail
    refine (KR.out _ lb).mono ?_
    rintro e w7 ⟨vX, rfl, oX, c⟩
    obtain ⟨aX, cX, rfl⟩ := oX.sl
    simp only at oX ⊢
    replace lb := lb.below c
    replace hs := hs.below c
    replace S0 := S0.below c
    replace bt := bt.trans (c.mono bt.size)
    clear c
    clear hne
    go_upto_region 10 with fail
    obtain ⟨BX0, hY⟩ : ∃ Y, w7.heap.size = Y := ⟨_, rfl⟩
    obtain ⟨w8, hV⟩ : ∃ V, V = w7.alloc (.cells #[.int .i64 st, .slice aX l.length cX] 25) := ⟨_, rfl⟩
    have c : Below w7.heap.size w7 w8 := by rw [hV]; exact (by repeat (first | with_reducible assumption | exact Below.refl _ _ | refine below_drewN ?_ _ | refine Below.drew ?_ | refine Below.alloc ?_ (by first | omega | (simp; done) | (simp; omega)) _ | refine Below.setCell ?_ (by first | omega | (simp; done) | (simp; omega)) _))
    have X0 : At w8 BX0 [.int .i64 st, .slice aX l.length cX] := by rw [hV]; exact At.new _ _ _ hY.symm rfl
    rw [hY, ← hV]
    clear hV hY
    replace lb := lb.below c
    replace hs := hs.below c
    replace S0 := S0.below c
    replace oX := oX.below c
    replace bt := bt.trans (c.mono bt.size)
    clear c
    obtain ⟨tX00, tX01, tX02, tX03⟩ := id X0.facts2
    obtain ⟨tS00, tS01, tS02, tS03⟩ := id S0.facts2
    go_wp2_with fail
    refine (sameSurvey_any _ _ _ _ st st l l _ (by omega) (by omega) oX.kr hs).mono ?_
    rintro e w9 ⟨rfl, c⟩
    clear tX00 tX01 tX02 tX03 tS00 tS01 tS02 tS03
    rw [dec_yes rfl]
    replace lb := lb.below c
    replace hs := hs.below c
    replace S0 := S0.below c
    replace oX := oX.below c
    replace X0 := X0.below c
    replace bt := bt.trans (c.mono bt.size)
    clear c
    go_wp2_with fail
    go_ret
    exact ⟨rfl, bt⟩
end Go.Proofs.YtdgnndlhnblenaaDoor
