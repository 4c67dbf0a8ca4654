/- The law FnExactDeedBack, walked: for surveys and deeds that lie anywhere in memory it returns true, and leaves memory as it was. -/
import Derived.Test.YtgggbapcpjfljaaG16
import Derived.Test.YtgggbapcpjfljaaG14
import Derived.Test.YtgggbapcpjfljaaG19
import Derived.Deep.RegionHeld3
import Derived.Deep.DeepCutAuto
namespace Go.Proofs.Ytgggbapcpjfljaa
open Go Go.RowKit Go.Sort

set_option maxHeartbeats 2000000 in
theorem exactDeedBack (a : Option Addr) (c : Nat) (st : Int) (l : List Lg) (d : Dd) (w : World) (hl : l.length ≤ 9223372036854775807) (hs : Legs w a l) :
    Calls Try.prog 3 #[.agg #[.int .i64 st, .slice a l.length c], d.val] w fun e w' => e = .returned (.bool true) ∧ Below w.heap.size w w' := by
  by_cases h1 : szL l.length 1048576 < 0
  · obtain ⟨kd, ix, ⟨x1, x2, x3, x4, x5⟩⟩ := d
    show Calls Try.prog 3 #[.agg #[.int .i64 st, .slice a l.length c], .agg #[.int .i64 kd, .int .i64 ix, .int .i64 x1, .int .i64 x2, .int .i64 x3, .int .i64 x4, .int .i64 x5]] w _
    go_enter Try.func3, Try.ntmps3
    go_wp2_with fail
    refine (szSurvey_any _ _ _ _ _ _ hl (by omega) (by omega)).mono ?_
    rintro e w1 ⟨rfl, b1⟩
    go_wp2_with fail
    go_ret
    exact ⟨rfl, (by repeat (first | with_reducible assumption | with_reducible exact Below.refl _ _ | refine Below.setCell ?_ (by first | omega | (simp; done) | (simp; omega)) _ | refine Below.alloc ?_ (by first | omega | (simp; done) | (simp; omega)) _ | with_reducible exact Below.trans (Below.refl _ _) b1 | refine Below.trans ?_ (Below.mono b1 (by first | omega | (simp; done) | (simp; omega))) | refine below_drewN ?_ _ | refine Below.drew ?_))⟩
  obtain ⟨h2, h3⟩ := szL_le h1
  have hlb : l.length ≤ 1048576 := by omega
  clear h2
  obtain ⟨⟨⟨k2, i2, ⟨y1, y2, y3, y4, y5⟩⟩, ok⟩, hR⟩ : ∃ p, ddBack ⟨st, l⟩ d = p := ⟨_, rfl⟩
  obtain ⟨kd, ix, ⟨x1, x2, x3, x4, x5⟩⟩ := d
  have KS := Lib.hid (show ∀ (g n : Nat) (w' : World), l.length ≤ n → n ≤ 9223372036854775807 → Legs w' (some ⟨g, 0, none⟩) l → Calls Try.prog 12 #[.agg #[.int .i64 st, .slice (some ⟨g, 0, none⟩) l.length n], .agg #[.int .i64 kd, .int .i64 ix, .int .i64 x1, .int .i64 x2, .int .i64 x3, .int .i64 x4, .int .i64 x5]] w' (fun e w'' => e = .returned (.tuple #[.agg #[.int .i64 k2, .int .i64 i2, .int .i64 y1, .int .i64 y2, .int .i64 y3, .int .i64 y4, .int .i64 y5], .bool ok]) ∧ Below w'.heap.size w' w'') from by
    intro g n w' hn hn2 hr
    have := sdeedBack_any (some ⟨g, 0, none⟩) n st l ⟨kd, ix, ⟨x1, x2, x3, x4, x5⟩⟩ w' hlb hn hn2 (fun ad h => by cases h; rfl) hr
    rw [hR] at this
    exact this)
  have KI := Lib.hid (show ∀ (g n : Nat) (w' : World), Legs w' (some ⟨g, 0, none⟩) l → Calls Try.prog 15 #[.agg #[.int .i64 st, .slice (some ⟨g, 0, none⟩) l.length n], .agg #[.int .i64 kd, .int .i64 ix, .int .i64 x1, .int .i64 x2, .int .i64 x3, .int .i64 x4, .int .i64 x5]] w' (fun e w'' => e = .returned (.tuple #[.agg #[.int .i64 k2, .int .i64 i2, .int .i64 y1, .int .i64 y2, .int .i64 y3, .int .i64 y4, .int .i64 y5], .bool ok]) ∧ Below w'.heap.size w' w'') from by
    intro g n w' hr
    have := deedBack_any (some ⟨g, 0, none⟩) n st l ⟨kd, ix, ⟨x1, x2, x3, x4, x5⟩⟩ w' hlb hr
    rw [hR] at this
    exact this)
  clear hR
  show Calls Try.prog 3 #[.agg #[.int .i64 st, .slice a l.length c], .agg #[.int .i64 kd, .int .i64 ix, .int .i64 x1, .int .i64 x2, .int .i64 x3, .int .i64 x4, .int .i64 x5]] w _
  go_enter Try.func3, Try.ntmps3
  go_wp2_with fail
  refine (szSurvey_any _ _ _ _ _ _ hl (by omega) (by omega)).mono ?_
  rintro e w1 ⟨rfl, b1⟩
  obtain ⟨X, hX⟩ : ∃ X, w.heap.size = X := ⟨_, rfl⟩
  have S0 : AtS w1 X st (.slice a l.length c) := by rw [← hX]; exact ((AtS.new w st _ _).alloc _).below b1
  have D0 : AtD w1 (X + 1) ⟨kd, ix, ⟨x1, x2, x3, x4, x5⟩⟩ := by
    have := (AtD.new (w.alloc (.cells #[.int .i64 st, .slice a l.length c] 24)) ⟨kd, ix, ⟨x1, x2, x3, x4, x5⟩⟩ 28).below b1
    rw [← hX]; simpa using this
  have b0 : Below w.heap.size w w1 := Below.trans (by repeat (first | with_reducible assumption | exact Below.refl _ _ | refine below_drewN ?_ _ | refine Below.drew ?_ | refine Below.alloc ?_ (by first | omega | (simp; done) | (simp; omega)) _ | refine Below.setCell ?_ (by first | omega | (simp; done) | (simp; omega)) _)) (b1.mono (by simp; omega))
  clear b1
  have hr1 := hs.below b0
  have hB := b0.size
  rw [hX] at hB ⊢
  clear hs
  obtain ⟨s0, s1, s2, -, -⟩ := id S0
  obtain ⟨d0, d1, d2, d3, d4, d5, d6, d7⟩ := id D0
  simp only at d1 d2 d3 d4 d5 d6 d7
  go_upto_region 5 with fail
  go_cut [6, 7] (fun p6 p7 wx => p7 = .bool ok ∧ Boxed w1 [.int .i64 k2, .int .i64 i2, .int .i64 y1, .int .i64 y2, .int .i64 y3, .int .i64 y4, .int .i64 y5] p6 wx)
  case first =>
    go_region_held3 (fun w' => Below w1.heap.size w1 w' ∧ ∀ b o, b < w1.heap.size → w'.cell? ⟨b, o, none⟩ = w1.cell? ⟨b, o, none⟩) (exact kept (by repeat (first | with_reducible assumption | with_reducible exact Below.refl _ _ | with_reducible refine Below.setCell ?_ (by first | omega | (simp; done) | (simp; omega)) _ | with_reducible refine Below.alloc ?_ (by first | omega | (simp; done) | (simp; omega)) _ | with_reducible refine Below.drew ?_)))
      (first
      | (go_at_call 13; refine (toSurvey_any _ _ _ l _ hlb (hr1.below (by repeat (first | with_reducible assumption | with_reducible exact Below.refl _ _ | with_reducible refine Below.setCell ?_ (by first | omega | (simp; done) | (simp; omega)) _ | with_reducible refine Below.alloc ?_ (by first | omega | (simp; done) | (simp; omega)) _ | with_reducible refine Below.drew ?_)))).mono ?_; rintro e w5 ⟨g5, rfl, o5, c5⟩; have B5 := kept_next (V := w1) (by repeat (first | with_reducible assumption | with_reducible exact Below.refl _ _ | with_reducible refine Below.setCell ?_ (by first | omega | (simp; done) | (simp; omega)) _ | with_reducible refine Below.alloc ?_ (by first | omega | (simp; done) | (simp; omega)) _ | with_reducible refine Below.drew ?_)) c5; have z5 := B5.size; (first | have A0 := A0.below c5 | have A0 := A0.drew.below c5 | have A0 := At.born c5 | have A0 := At.bornD c5 | skip); (first | obtain ⟨i50, i51, i52, i53, i54, i55, i56, i57, i58⟩ := A0.facts7 | skip); clear c5)
      | (go_at_call 14; refine (toBookDeed_any ⟨kd, ix, ⟨x1, x2, x3, x4, x5⟩⟩ _).mono ?_; rintro e w6 ⟨rfl, c6⟩; have B6 := kept_next (V := w1) (by repeat (first | with_reducible assumption | with_reducible exact Below.refl _ _ | with_reducible refine Below.setCell ?_ (by first | omega | (simp; done) | (simp; omega)) _ | with_reducible refine Below.alloc ?_ (by first | omega | (simp; done) | (simp; omega)) _ | with_reducible refine Below.drew ?_)) c6; have z6 := B6.size; (first | have A0 := A0.below c6 | have A0 := A0.drew.below c6 | have A0 := At.born c6 | have A0 := At.bornD c6 | skip); (first | obtain ⟨i60, i61, i62, i63, i64, i65, i66, i67, i68⟩ := A0.facts7 | skip); (first | have o5 := o5.below c6 | have o5 := o5.below (al_then c6) | skip); clear c6)
      | (go_at_call 12; refine (KS.out _ _ _ (Nat.le_refl _) (by omega) (by first | exact o5.kr | exact (o5.alloc _).kr)).mono ?_; rintro e w7 ⟨rfl, c7⟩; have B7 := kept_next (V := w1) (by repeat (first | with_reducible assumption | with_reducible exact Below.refl _ _ | with_reducible refine Below.setCell ?_ (by first | omega | (simp; done) | (simp; omega)) _ | with_reducible refine Below.alloc ?_ (by first | omega | (simp; done) | (simp; omega)) _ | with_reducible refine Below.drew ?_)) c7; have z7 := B7.size; (first | have A0 := A0.below c7 | have A0 := A0.drew.below c7 | have A0 := At.born c7 | have A0 := At.bornD c7 | skip); (first | obtain ⟨i70, i71, i72, i73, i74, i75, i76, i77, i78⟩ := A0.facts7 | skip); clear c7))
    all_goals (go_wp2_with fail; go_meet)
    all_goals exact ⟨rfl, _, rfl, by first | omega | (simp; omega), by first | with_reducible exact At.new _ _ _ rfl rfl | exact A0.sets7 _ _ _ _ _ _ _, (by repeat (first | with_reducible assumption | with_reducible exact Below.refl _ _ | with_reducible refine Below.setCell ?_ (by first | omega | (simp; done) | (simp; omega)) _ | with_reducible refine Below.alloc ?_ (by first | omega | (simp; done) | (simp; omega)) _ | with_reducible refine Below.drew ?_))⟩
  case rest =>
    obtain ⟨rfl, g6, rfl, hg6, A6, b6⟩ := hcut
    replace S0 := S0.below b6
    replace D0 := D0.below b6
    replace hr1 := hr1.below b6
    replace b0 := b0.trans (b6.mono b0.size)
    clear s0 s1 s2 d0 d1 d2 d3 d4 d5 d6 d7 b6 hg6
    obtain ⟨s0, s1, s2, -, -⟩ := id S0
    go_wp2_with fail
    refine (toSurvey_any _ _ _ l _ hlb hr1).mono ?_
    rintro e w8 ⟨g8, rfl, o8, c8⟩
    replace S0 := S0.below c8
    replace D0 := D0.below c8
    replace hr1 := hr1.below c8
    replace A6 := A6.below c8
    replace b0 := b0.trans (c8.mono b0.size)
    clear c8 s0 s1 s2
    go_upto_region 7 with fail
    obtain ⟨Y, hY⟩ : ∃ Y, w8.heap.size = Y := ⟨_, rfl⟩
    obtain ⟨V, hV⟩ : ∃ V, V = w8.alloc (.cells #[.int .i64 st, .slice (some ⟨g8, 0, none⟩) l.length l.length] 37) := ⟨_, rfl⟩
    have cV : Below w8.heap.size w8 V := by rw [hV]; exact (by repeat (first | with_reducible assumption | exact Below.refl _ _ | refine below_drewN ?_ _ | refine Below.drew ?_ | refine Below.alloc ?_ (by first | omega | (simp; done) | (simp; omega)) _ | refine Below.setCell ?_ (by first | omega | (simp; done) | (simp; omega)) _))
    have Y0 : At V Y [.int .i64 st, .slice (some ⟨g8, 0, none⟩) l.length l.length] := by rw [hV]; exact At.new _ _ _ hY.symm rfl
    rw [hY, ← hV]
    replace S0 := S0.below cV
    replace D0 := D0.below cV
    replace hr1 := hr1.below cV
    replace A6 := A6.below cV
    replace o8 := o8.below cV
    replace b0 := b0.trans (cV.mono b0.size)
    clear cV hV hY
    obtain ⟨d0, d1, d2, d3, d4, d5, d6, d7⟩ := id D0
    simp only at d1 d2 d3 d4 d5 d6 d7
    obtain ⟨y00, y01, y02, -⟩ := Y0.facts2
    have hq := o8.kr
    go_cut [9, 10] (fun p9 p10 wx => p10 = .bool ok ∧ Boxed V [.int .i64 k2, .int .i64 i2, .int .i64 y1, .int .i64 y2, .int .i64 y3, .int .i64 y4, .int .i64 y5] p9 wx)
    case first =>
      go_region_held3 (fun w' => Below V.heap.size V w' ∧ ∀ b o, b < V.heap.size → w'.cell? ⟨b, o, none⟩ = V.cell? ⟨b, o, none⟩) (exact kept (by repeat (first | with_reducible assumption | with_reducible exact Below.refl _ _ | with_reducible refine Below.setCell ?_ (by first | omega | (simp; done) | (simp; omega)) _ | with_reducible refine Below.alloc ?_ (by first | omega | (simp; done) | (simp; omega)) _ | with_reducible refine Below.drew ?_)))
        (first
        | (go_at_call 14; refine (toBookDeed_any ⟨kd, ix, ⟨x1, x2, x3, x4, x5⟩⟩ _).mono ?_; rintro e w6 ⟨rfl, c6⟩; have B6 := kept_next (V := V) (by repeat (first | with_reducible assumption | with_reducible exact Below.refl _ _ | with_reducible refine Below.setCell ?_ (by first | omega | (simp; done) | (simp; omega)) _ | with_reducible refine Below.alloc ?_ (by first | omega | (simp; done) | (simp; omega)) _ | with_reducible refine Below.drew ?_)) c6; have z6 := B6.size; (first | have A0 := A0.below c6 | have A0 := A0.drew.below c6 | have A0 := At.born c6 | have A0 := At.bornD c6 | skip); (first | obtain ⟨i60, i61, i62, i63, i64, i65, i66, i67, i68⟩ := A0.facts7 | skip); clear c6)
        | (go_at_call 15; refine (KI.out _ _ _ (hq.below (by repeat (first | with_reducible assumption | with_reducible exact Below.refl _ _ | with_reducible refine Below.setCell ?_ (by first | omega | (simp; done) | (simp; omega)) _ | with_reducible refine Below.alloc ?_ (by first | omega | (simp; done) | (simp; omega)) _ | with_reducible refine Below.drew ?_)))).mono ?_; rintro e w7 ⟨rfl, c7⟩; have B7 := kept_next (V := V) (by repeat (first | with_reducible assumption | with_reducible exact Below.refl _ _ | with_reducible refine Below.setCell ?_ (by first | omega | (simp; done) | (simp; omega)) _ | with_reducible refine Below.alloc ?_ (by first | omega | (simp; done) | (simp; omega)) _ | with_reducible refine Below.drew ?_)) c7; have z7 := B7.size; (first | have A0 := A0.below c7 | have A0 := A0.drew.below c7 | have A0 := At.born c7 | have A0 := At.bornD c7 | skip); (first | obtain ⟨i70, i71, i72, i73, i74, i75, i76, i77, i78⟩ := A0.facts7 | skip); clear c7))
      all_goals (go_wp2_with fail; go_meet)
      all_goals exact ⟨rfl, _, rfl, by first | omega | (simp; omega), by first | with_reducible exact At.new _ _ _ rfl rfl | exact A0.sets7 _ _ _ _ _ _ _, (by repeat (first | with_reducible assumption | with_reducible exact Below.refl _ _ | with_reducible refine Below.setCell ?_ (by first | omega | (simp; done) | (simp; omega)) _ | with_reducible refine Below.alloc ?_ (by first | omega | (simp; done) | (simp; omega)) _ | with_reducible refine Below.drew ?_))⟩
    case rest =>
      obtain ⟨rfl, g9, rfl, hg9, A9, b9⟩ := hcut
      replace S0 := S0.below b9
      replace hr1 := hr1.below b9
      replace A6 := A6.below b9
      replace Y0 := Y0.below b9
      replace hq := hq.below b9
      replace b0 := b0.trans (b9.mono b0.size)
      clear d0 d1 d2 d3 d4 d5 d6 d7 y00 y01 y02 D0 b9 hg9 o8
      obtain ⟨q60, q61, q62, q63, q64, q65, q66, q67, -⟩ := A6.facts7
      obtain ⟨q90, q91, q92, q93, q94, q95, q96, q97, -⟩ := A9.facts7
      go_wp2_with fail
      refine (eqBookDeed_any ⟨k2, i2, ⟨y1, y2, y3, y4, y5⟩⟩ _).mono ?_
      rintro e w9 ⟨rfl, c9⟩
      replace S0 := S0.below c9
      replace hr1 := hr1.below c9
      replace Y0 := Y0.below c9
      replace hq := hq.below c9
      replace b0 := b0.trans (c9.mono b0.size)
      clear c9 A6 A9 q60 q61 q62 q63 q64 q65 q66 q67 q90 q91 q92 q93 q94 q95 q96 q97
      obtain ⟨s0, s1, s2, -, -⟩ := id S0
      obtain ⟨y00, y01, y02, -⟩ := Y0.facts2
      have hok : (ok != ok) = false := by simp
      go_upto_region 10 with fail
      go_cut [46] (fun p wx => p = .bool false ∧ Below w9.heap.size w9 wx)
      case first =>
        go_region_held3 (fun w' => Below w9.heap.size w9 w' ∧ ∀ b o, b < w9.heap.size → w'.cell? ⟨b, o, none⟩ = w9.cell? ⟨b, o, none⟩) (exact kept (by repeat (first | with_reducible assumption | with_reducible exact Below.refl _ _ | with_reducible refine Below.setCell ?_ (by first | omega | (simp; done) | (simp; omega)) _ | with_reducible refine Below.alloc ?_ (by first | omega | (simp; done) | (simp; omega)) _ | with_reducible refine Below.drew ?_)))
          (first
          | (go_at_call 13; refine (toSurvey_any _ _ _ l _ hlb (hr1.below (by repeat (first | with_reducible assumption | with_reducible exact Below.refl _ _ | with_reducible refine Below.setCell ?_ (by first | omega | (simp; done) | (simp; omega)) _ | with_reducible refine Below.alloc ?_ (by first | omega | (simp; done) | (simp; omega)) _ | with_reducible refine Below.drew ?_)))).mono ?_; rintro e w5 ⟨g5, rfl, o5, c5⟩; have B5 := kept_next (V := w9) (by repeat (first | with_reducible assumption | with_reducible exact Below.refl _ _ | with_reducible refine Below.setCell ?_ (by first | omega | (simp; done) | (simp; omega)) _ | with_reducible refine Below.alloc ?_ (by first | omega | (simp; done) | (simp; omega)) _ | with_reducible refine Below.drew ?_)) c5; have z5 := B5.size; clear c5)
          | (go_at_call 17; refine (eqSurvey_any _ _ _ _ st l _ (by omega) (hq.below (by repeat (first | with_reducible assumption | with_reducible exact Below.refl _ _ | with_reducible refine Below.setCell ?_ (by first | omega | (simp; done) | (simp; omega)) _ | with_reducible refine Below.alloc ?_ (by first | omega | (simp; done) | (simp; omega)) _ | with_reducible refine Below.drew ?_))) o5.kr).mono ?_; rintro e w6 ⟨rfl, c6⟩; have B6 := kept_next (V := w9) (by repeat (first | with_reducible assumption | with_reducible exact Below.refl _ _ | with_reducible refine Below.setCell ?_ (by first | omega | (simp; done) | (simp; omega)) _ | with_reducible refine Below.alloc ?_ (by first | omega | (simp; done) | (simp; omega)) _ | with_reducible refine Below.drew ?_)) c6; have z6 := B6.size; clear c6))
        all_goals (go_wp2_with fail; go_meet)
        all_goals exact ⟨rfl, (by repeat (first | with_reducible assumption | with_reducible exact Below.refl _ _ | with_reducible refine Below.setCell ?_ (by first | omega | (simp; done) | (simp; omega)) _ | with_reducible refine Below.alloc ?_ (by first | omega | (simp; done) | (simp; omega)) _ | with_reducible refine Below.drew ?_))⟩
      case rest =>
        obtain ⟨rfl, b10⟩ := hcut
        go_wp2_with fail
        go_ret
        exact ⟨rfl, b0.trans (b10.mono b0.size)⟩
end Go.Proofs.Ytgggbapcpjfljaa
