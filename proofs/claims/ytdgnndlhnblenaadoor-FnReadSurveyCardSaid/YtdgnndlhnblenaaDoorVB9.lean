/- The law FnReadSurvey, walked: read texts are canonical (written by wip/bin/gen_vb9.py). -/
import Derived.Test.YtdgnndlhnblenaaDoorR5
import Derived.Test.YtdgnndlhnblenaaDoorT1
import Derived.Test.YtdgnndlhnblenaaDoorT5
import Derived.Test.YtdgnndlhnblenaaDoorT2
set_option linter.unusedSimpArgs false
set_option linter.unusedVariables false
namespace Go.Proofs.YtdgnndlhnblenaaDoor
open Go Go.RowKit Go.Sort

theorem rdSvD_len {s : ByteArray} {x : Sv} {b : Bool} (h : rdSvD s = (x, b)) : x.legs.length ≤ 9 := by
  cases b with
  | false => rw [rdSvD_no_zero h]; simp [zeroSv]
  | true => exact (svOk_iff.1 (rdSvD_yes_iff h).1).2.2.1
set_option maxRecDepth 100000 in
set_option maxHeartbeats 4000000 in
theorem lawReadSurvey (a : Option Addr) (n c : Nat) (w : World) (hc : n ≤ c) (hn : n ≤ 9223372036854775807) (hb : n ≤ 1048576 → Bytes w a n) (hpw : Lby w) :
    Calls Tryd.prog 13 #[.slice a n c] w fun e w' => e = .returned (.bool true) ∧ Below w.heap.size w w' := by
  by_cases hbig : 1048576 < n
  · go_enter Tryd.func13, Tryd.ntmps13
    go_wp2_with fail
    go_ret
    exact ⟨rfl, (by repeat (first | with_reducible assumption | exact Below.refl _ _ | refine below_drewN ?_ _ | refine Below.drew ?_ | refine Below.alloc ?_ (by first | omega | (simp; done) | (simp; omega)) _ | refine Below.setCell ?_ (by first | omega | (simp; done) | (simp; omega)) _))⟩
  replace hb := hb (by omega)
  go_enter Tryd.func13, Tryd.ntmps13
  go_wp2_with fail
  refine (drawReadSurvey_any a n c w hc (by omega) hb).mono ?_
  rintro e w1 ⟨u, rfl, hu, bt⟩
  have lb := hpw.below bt
  clear hb hpw hn hc hbig
  obtain ⟨⟨⟨st, l⟩, ok⟩, hp⟩ : ∃ p, rdSvD u = p := ⟨_, rfl⟩
  have hl : l.length ≤ 9 := rdSvD_len hp
  have KI := Lib.hid (show ∀ (w' : World), Lby w' → Calls Tryd.prog 47 #[.string u] w' (SvOut (⟨st, l⟩, ok) w') from fun w' h => by
    have := readSurvey_any u w' (by omega) h
    rw [hp] at this
    exact this)
  have KS := Lib.hid (show ∀ (w' : World), Calls Tryd.prog 53 #[.string u] w' (SvOut (⟨st, l⟩, ok) w') from fun w' => by
    have := sreadSurvey_any u w' (by omega)
    rw [hp] at this
    exact this)
  have HP := Lib.hid hp
  clear hp
  go_wp2_with fail
  refine (KI.out _ lb).mono ?_
  rintro e w2 ⟨vS, rfl, oS, c⟩
  obtain ⟨aS, cS, rfl⟩ := oS.sl
  simp only at oS ⊢
  replace lb := lb.below c
  replace bt := bt.trans (c.mono bt.size)
  clear c
  go_upto_region 5 with fail
  obtain ⟨BS0, hY⟩ : ∃ Y, w2.heap.size = Y := ⟨_, rfl⟩
  obtain ⟨w3, hV⟩ : ∃ V, V = w2.alloc (.cells #[.int .i64 st, .slice aS l.length cS] 25) := ⟨_, rfl⟩
  have c : Below w2.heap.size w2 w3 := by rw [hV]; exact (by repeat (first | with_reducible assumption | exact Below.refl _ _ | refine below_drewN ?_ _ | refine Below.drew ?_ | refine Below.alloc ?_ (by first | omega | (simp; done) | (simp; omega)) _ | refine Below.setCell ?_ (by first | omega | (simp; done) | (simp; omega)) _))
  have S0 : At w3 BS0 [.int .i64 st, .slice aS l.length cS] := by rw [hV]; exact At.new _ _ _ hY.symm rfl
  rw [hY, ← hV]
  clear hV hY
  replace lb := lb.below c
  replace oS := oS.below c
  replace bt := bt.trans (c.mono bt.size)
  clear c
  obtain ⟨tS00, tS01, tS02, tS03⟩ := id S0.facts2
  go_wp2_with fail
  refine (KS.out _).mono ?_
  rintro e w4 ⟨vX, rfl, oX, c⟩
  clear tS00 tS01 tS02 tS03
  obtain ⟨aX, cX, rfl⟩ := oX.sl
  simp only at oX ⊢
  replace lb := lb.below c
  replace oS := oS.below c
  replace S0 := S0.below c
  replace bt := bt.trans (c.mono bt.size)
  clear c
  go_upto_region 6 with fail
  obtain ⟨BX0, hY⟩ : ∃ Y, w4.heap.size = Y := ⟨_, rfl⟩
  obtain ⟨w5, hV⟩ : ∃ V, V = w4.alloc (.cells #[.int .i64 st, .slice aX l.length cX] 25) := ⟨_, rfl⟩
  have c : Below w4.heap.size w4 w5 := by rw [hV]; exact (by repeat (first | with_reducible assumption | exact Below.refl _ _ | refine below_drewN ?_ _ | refine Below.drew ?_ | refine Below.alloc ?_ (by first | omega | (simp; done) | (simp; omega)) _ | refine Below.setCell ?_ (by first | omega | (simp; done) | (simp; omega)) _))
  have X0 : At w5 BX0 [.int .i64 st, .slice aX l.length cX] := by rw [hV]; exact At.new _ _ _ hY.symm rfl
  rw [hY, ← hV]
  clear hV hY
  replace lb := lb.below c
  replace oS := oS.below c
  replace S0 := S0.below c
  replace oX := oX.below c
  replace bt := bt.trans (c.mono bt.size)
  clear c
  have hok : (ok != ok) = false := by simp
  obtain ⟨tS00, tS01, tS02, tS03⟩ := id S0.facts2
  obtain ⟨tX00, tX01, tX02, tX03⟩ := id X0.facts2
  go_wp2_with fail
  refine (sameSurvey_any _ _ _ _ st st l l _ (by omega) (by omega) oS.kr oX.kr).mono ?_
  rintro e w6 ⟨rfl, c⟩
  clear tS00 tS01 tS02 tS03 tX00 tX01 tX02 tX03
  rw [dec_yes rfl]
  replace lb := lb.below c
  replace oS := oS.below c
  replace S0 := S0.below c
  replace oX := oX.below c
  replace X0 := X0.below c
  replace bt := bt.trans (c.mono bt.size)
  clear c
  clear oX X0
  cases ok with
  | false =>
    have hz := rdSvD_no_zero HP.out
    simp only [zeroSv, Sv.mk.injEq] at hz
    obtain ⟨rfl, rfl⟩ := hz
    clear oS
    simp only [List.length_nil] at S0
    obtain ⟨tS00, tS01, tS02, tS03⟩ := id S0.facts2
    go_wp2_with fail
    refine (alive_any _ lb.pow).mono ?_
    rintro e w7 ⟨rfl, c⟩
    clear tS00 tS01 tS02 tS03
    replace lb := lb.below c
    replace S0 := S0.below c
    replace bt := bt.trans (c.mono bt.size)
    clear c
    go_wp2_with fail
    go_ret
    exact ⟨rfl, bt⟩
  | true =>
    obtain ⟨hv, ht⟩ := rdSvD_yes_iff HP.out
    have hm := rdSvD_semi HP.out
    have KM := Lib.hid (show ∀ (w' : World), Lby w' → Calls Tryd.prog 47 #[.string (u ++ ⟨#[59]⟩)] w' (SvOut (zeroSv, false) w') from fun w' h => by
      have := readSurvey_any (u ++ ⟨#[59]⟩) w' (by rw [ByteArray.size_append]; show u.size + 1 ≤ _; omega) h
      rw [hm] at this
      exact this)
    have HV := Lib.hid hv
    have HT := Lib.hid ht
    clear hm hv ht HP KI KS
    have hsz : ¬ 9223372036854775807 < u.size + 1 := by omega
    go_wp2_with fail
    refine (KM.out _ lb).mono ?_
    rintro e w8 ⟨vM, rfl, oM, c⟩
    obtain ⟨aM, cM, rfl⟩ := oM.sl
    simp only [zeroSv, List.length_nil] at oM ⊢
    clear oM
    replace lb := lb.below c
    replace oS := oS.below c
    replace S0 := S0.below c
    replace bt := bt.trans (c.mono bt.size)
    clear c
    go_upto_region 11 with fail
    obtain ⟨BM0, hY⟩ : ∃ Y, w8.heap.size = Y := ⟨_, rfl⟩
    obtain ⟨w9, hV⟩ : ∃ V, V = w8.alloc (.cells #[.int .i64 0, .slice aM 0 cM] 25) := ⟨_, rfl⟩
    have c : Below w8.heap.size w8 w9 := by rw [hV]; exact (by repeat (first | with_reducible assumption | exact Below.refl _ _ | refine below_drewN ?_ _ | refine Below.drew ?_ | refine Below.alloc ?_ (by first | omega | (simp; done) | (simp; omega)) _ | refine Below.setCell ?_ (by first | omega | (simp; done) | (simp; omega)) _))
    have M0 : At w9 BM0 [.int .i64 0, .slice aM 0 cM] := by rw [hV]; exact At.new _ _ _ hY.symm rfl
    rw [hY, ← hV]
    clear hV hY
    replace lb := lb.below c
    replace oS := oS.below c
    replace S0 := S0.below c
    replace bt := bt.trans (c.mono bt.size)
    clear c
    obtain ⟨tS00, tS01, tS02, tS03⟩ := id S0.facts2
    go_wp2_with fail
    refine (surveyValid_any _ _ st l _ (by omega) oS.kr).mono ?_
    rintro e w10 ⟨rfl, c⟩
    clear tS00 tS01 tS02 tS03
    rw [HV.out]
    replace lb := lb.below c
    replace oS := oS.below c
    replace S0 := S0.below c
    replace M0 := M0.below c
    replace bt := bt.trans (c.mono bt.size)
    clear c
    obtain ⟨tS00, tS01, tS02, tS03⟩ := id S0.facts2
    go_wp2_with fail
    refine (surveyText_any _ _ st l _ (by omega) oS.kr lb.pow).mono ?_
    rintro e w11 ⟨rfl, c⟩
    clear tS00 tS01 tS02 tS03
    rw [HT.out]
    replace lb := lb.below c
    replace oS := oS.below c
    replace S0 := S0.below c
    replace M0 := M0.below c
    replace bt := bt.trans (c.mono bt.size)
    clear c
    go_wp2_with fail
    go_ret
    exact ⟨rfl, bt⟩
end Go.Proofs.YtdgnndlhnblenaaDoor
