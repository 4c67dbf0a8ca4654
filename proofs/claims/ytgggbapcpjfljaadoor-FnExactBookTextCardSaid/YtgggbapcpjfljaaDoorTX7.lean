/- The law FnExactSurveyText, walked: for all arguments, wherever they lie in memory, it returns true, and leaves memory as it was. -/
import Derived.Test.YtgggbapcpjfljaaDoorTX6
import Derived.Test.YtgggbapcpjfljaaDoorG19
import Derived.Deep.RegionHeld3
import Derived.Deep.DeepCutAuto
namespace Go.Proofs.YtgggbapcpjfljaaDoor
open Go Go.RowKit Go.Sort

set_option maxRecDepth 100000 in
set_option maxHeartbeats 2000000 in
theorem exactSurveyText (a : Option Addr) (c : Nat) (st : Int) (l : List Lg) (w : World) (hl : l.length ≤ 9223372036854775807) (hs : Legs w a l) (hp : Pow w) :
    Calls Tryd.prog 4 #[.agg #[.int .i64 st, .slice a l.length c]] w fun e w' => e = .returned (.bool true) ∧ Below w.heap.size w w' := by
  by_cases h1 : szL l.length 1048576 < 0
  · go_enter Tryd.func4, Tryd.ntmps4
    go_wp2_with fail
    refine (szSurvey_any _ _ _ _ _ _ hl (by omega) (by omega)).mono ?_
    rintro e w1 ⟨rfl, b1⟩
    go_wp2_with fail
    go_ret
    exact ⟨rfl, (by repeat (first | with_reducible assumption | with_reducible exact Below.refl _ _ | refine Below.setCell ?_ (by first | omega | (simp; done) | (simp; omega)) _ | refine Below.alloc ?_ (by first | omega | (simp; done) | (simp; omega)) _ | with_reducible exact Below.trans (Below.refl _ _) b1 | refine Below.trans ?_ (Below.mono b1 (by first | omega | (simp; done) | (simp; omega))) | refine below_drewN ?_ _ | refine Below.drew ?_))⟩
  obtain ⟨h2, h3⟩ := szL_le h1
  have hlb : l.length ≤ 1048576 := by omega
  clear h2
  have KS := fun a c w h => ssurveyText_any a c st l w hlb h
  have KI := fun a c w h hp => surveyText_any a c st l w hlb h hp
  obtain ⟨L, hL⟩ : ∃ L, L = surveyB ⟨st, l⟩ := ⟨_, rfl⟩
  simp only [← hL] at KS KI
  clear hL
  have hne : (L.toList != L.toList) = false := by simp
  obtain ⟨X, hX⟩ : ∃ X, w.heap.size = X := ⟨_, rfl⟩
  obtain ⟨W1, hW1⟩ : ∃ W1, W1 = w.alloc (.cells #[.int .i64 st, .slice a l.length c] 34) := ⟨_, rfl⟩
  have G0 : At W1 X [.int .i64 st, .slice a l.length c] := by rw [hW1]; exact At.new _ _ _ (by simp [hX]) rfl
  have b0 : Below w.heap.size w W1 := by rw [hW1]; exact (by repeat (first | with_reducible assumption | exact Below.refl _ _ | refine below_drewN ?_ _ | refine Below.drew ?_ | refine Below.alloc ?_ (by first | omega | (simp; done) | (simp; omega)) _ | refine Below.setCell ?_ (by first | omega | (simp; done) | (simp; omega)) _))
  go_enter Tryd.func4, Tryd.ntmps4
  go_wp2_with fail
  rw [← hW1]
  clear hW1
  refine (szSurvey_any _ _ _ _ _ _ hl (by omega) (by omega)).mono ?_
  rintro e v0 ⟨rfl, c1⟩
  replace G0 := G0.below c1
  replace b0 := b0.trans (c1.mono b0.size)
  clear c1
  obtain ⟨t0, t1, t2, -⟩ := id G0.facts2
  go_wp2_with fail
  refine (toSurvey_any _ _ st l _ hlb (hs.below b0)).mono ?_
  rintro e w1 ⟨g1, rfl, o1, c1⟩
  clear t0 t1 t2
  replace G0 := G0.below c1
  replace b0 := b0.trans (c1.mono b0.size)
  clear c1
  go_wp2_with fail
  refine (KS _ _ _ o1.kr).mono ?_
  rintro e w2 ⟨rfl, c2⟩
  replace G0 := G0.below c2
  replace b0 := b0.trans (c2.mono b0.size)
  clear c2 o1
  obtain ⟨t0, t1, t2, -⟩ := id G0.facts2
  go_wp2_with fail
  refine (toSurvey_any _ _ st l _ hlb (hs.below b0)).mono ?_
  rintro e w3 ⟨g3, rfl, o3, c3⟩
  clear t0 t1 t2
  replace G0 := G0.below c3
  replace b0 := b0.trans (c3.mono b0.size)
  clear c3
  go_upto_region 7 with fail
  obtain ⟨Bx, hY⟩ : ∃ Y, w3.heap.size = Y := ⟨_, rfl⟩
  obtain ⟨V, hV⟩ : ∃ V, V = w3.alloc (.cells #[.int .i64 st, .slice (some ⟨g3, 0, none⟩) l.length l.length] 39) := ⟨_, rfl⟩
  have c4 : Below w3.heap.size w3 V := by rw [hV]; exact (by repeat (first | with_reducible assumption | exact Below.refl _ _ | refine below_drewN ?_ _ | refine Below.drew ?_ | refine Below.alloc ?_ (by first | omega | (simp; done) | (simp; omega)) _ | refine Below.setCell ?_ (by first | omega | (simp; done) | (simp; omega)) _))
  have Ax : At V Bx [.int .i64 st, .slice (some ⟨g3, 0, none⟩) l.length l.length] := by rw [hV]; exact At.new _ _ _ hY.symm rfl
  rw [hY, ← hV]
  replace G0 := G0.below c4
  replace o3 := o3.below c4
  replace b0 := b0.trans (c4.mono b0.size)
  clear c4 hV hY
  have hq := o3.kr
  clear o3
  obtain ⟨t0, t1, t2, -⟩ := id Ax.facts2
  go_wp2_with fail
  refine (KI _ _ _ hq (hp.below b0)).mono ?_
  rintro e w5 ⟨rfl, c5⟩
  clear t0 t1 t2
  replace G0 := G0.below c5
  replace Ax := Ax.below c5
  replace hq := hq.below c5
  replace b0 := b0.trans (c5.mono b0.size)
  clear c5
  obtain ⟨t0, t1, t2, -⟩ := id Ax.facts2
  obtain ⟨s0, s1, s2, -⟩ := id G0.facts2
  have hr := hs.below b0
  go_upto_region 10 with fail
  go_cut [26] (fun p wx => p = .bool false ∧ Below w5.heap.size w5 wx)
  case first =>
    go_region_held3 (fun w' => Below w5.heap.size w5 w' ∧ ∀ b o, b < w5.heap.size → w'.cell? ⟨b, o, none⟩ = w5.cell? ⟨b, o, none⟩) (exact kept (by repeat (first | with_reducible assumption | with_reducible exact Below.refl _ _ | with_reducible refine Below.setCell ?_ (by first | omega | (simp; done) | (simp; omega)) _ | with_reducible refine Below.alloc ?_ (by first | omega | (simp; done) | (simp; omega)) _ | with_reducible refine Below.drew ?_)))
      (first
      | (go_at_call 13; refine (toSurvey_any _ _ st l _ hlb (hr.below (by repeat (first | with_reducible assumption | with_reducible exact Below.refl _ _ | with_reducible refine Below.setCell ?_ (by first | omega | (simp; done) | (simp; omega)) _ | with_reducible refine Below.alloc ?_ (by first | omega | (simp; done) | (simp; omega)) _ | with_reducible refine Below.drew ?_)))).mono ?_; rintro e wy ⟨gy, rfl, oy, c⟩; have By := kept_next (V := w5) (by repeat (first | with_reducible assumption | with_reducible exact Below.refl _ _ | with_reducible refine Below.setCell ?_ (by first | omega | (simp; done) | (simp; omega)) _ | with_reducible refine Below.alloc ?_ (by first | omega | (simp; done) | (simp; omega)) _ | with_reducible refine Below.drew ?_)) c; have zy := By.size; clear c)
      | (go_at_call 15; refine (eqSurvey_any _ _ _ _ st l _ (by omega) (hq.below (by repeat (first | with_reducible assumption | with_reducible exact Below.refl _ _ | with_reducible refine Below.setCell ?_ (by first | omega | (simp; done) | (simp; omega)) _ | with_reducible refine Below.alloc ?_ (by first | omega | (simp; done) | (simp; omega)) _ | with_reducible refine Below.drew ?_))) oy.kr).mono ?_; rintro e wz ⟨rfl, c⟩; have Bz := kept_next (V := w5) (by repeat (first | with_reducible assumption | with_reducible exact Below.refl _ _ | with_reducible refine Below.setCell ?_ (by first | omega | (simp; done) | (simp; omega)) _ | with_reducible refine Below.alloc ?_ (by first | omega | (simp; done) | (simp; omega)) _ | with_reducible refine Below.drew ?_)) c; have zz := Bz.size; clear c))
    all_goals (go_wp2_with fail; go_meet)
    all_goals exact ⟨rfl, (by repeat (first | with_reducible assumption | with_reducible exact Below.refl _ _ | with_reducible refine Below.setCell ?_ (by first | omega | (simp; done) | (simp; omega)) _ | with_reducible refine Below.alloc ?_ (by first | omega | (simp; done) | (simp; omega)) _ | with_reducible refine Below.drew ?_))⟩
  case rest =>
    obtain ⟨rfl, bb⟩ := hcut
    go_wp2_with fail
    go_ret
    exact ⟨rfl, b0.trans (bb.mono b0.size)⟩
end Go.Proofs.YtgggbapcpjfljaaDoor
