/- Walks: legs turned round, deeds fit (impl and spec). -/
import Derived.Test.YtgggbapcpjfljaaGreatDoorG3
namespace Go.Proofs.YtgggbapcpjfljaaGreatDoor
open Go Go.RowKit Go.Sort

theorem legBack_any (g : Lg) (w : World) (h : legOk 6 g = true) :
    Calls Tryz.prog 48 #[g.val] w fun e w' => e = .returned (legBack g).val ∧ Below w.heap.size w w' := by
  obtain ⟨hr1, hr2, hr3, hr4, hr5⟩ := legOk_range (by omega) h
  obtain ⟨x1, x2, x3, x4, x5⟩ := g
  simp only at hr1 hr2 hr3 hr4 hr5
  show Calls Tryz.prog 48 #[.agg #[.int .i64 x1, .int .i64 x2, .int .i64 x3, .int .i64 x4, .int .i64 x5]] w _
  obtain ⟨hr3, hr3'⟩ := hr3
  obtain ⟨hr4, hr4'⟩ := hr4
  obtain ⟨hr5, hr5'⟩ := hr5
  clear hr1 hr2 h
  go_enter Tryz.func48, Tryz.ntmps48
  go_wp2
  exact bodyPost_ret (v := .agg #[.int .i64 x2, .int .i64 x1, .int .i64 (-x3), .int .i64 (-x4), .int .i64 (-x5)]) (by simp [results, Tryz.results48, go_sem]) rfl ⟨rfl, (by repeat (first | with_reducible assumption | exact Below.refl _ _ | refine below_drewN ?_ _ | refine Below.drew ?_ | refine Below.alloc ?_ (by first | omega | (simp; done) | (simp; omega)) _ | refine Below.setCell ?_ (by first | omega | (simp; done) | (simp; omega)) _))⟩

theorem slegBack_any (g : Lg) (w : World) (h : legOk 6 g = true) :
    Calls Tryz.prog 33 #[g.val] w fun e w' => e = .returned (legBack g).val ∧ Below w.heap.size w w' := by
  obtain ⟨hr1, hr2, hr3, hr4, hr5⟩ := legOk_range (by omega) h
  obtain ⟨x1, x2, x3, x4, x5⟩ := g
  simp only at hr1 hr2 hr3 hr4 hr5
  show Calls Tryz.prog 33 #[.agg #[.int .i64 x1, .int .i64 x2, .int .i64 x3, .int .i64 x4, .int .i64 x5]] w _
  obtain ⟨hr3, hr3'⟩ := hr3
  obtain ⟨hr4, hr4'⟩ := hr4
  obtain ⟨hr5, hr5'⟩ := hr5
  clear hr1 hr2 h
  go_enter Tryz.func33, Tryz.ntmps33
  go_wp2
  exact bodyPost_ret (v := .agg #[.int .i64 x2, .int .i64 x1, .int .i64 (-x3), .int .i64 (-x4), .int .i64 (-x5)]) (by simp [results, Tryz.results33, go_sem]) rfl ⟨rfl, (by repeat (first | with_reducible assumption | exact Below.refl _ _ | refine below_drewN ?_ _ | refine Below.drew ?_ | refine Below.alloc ?_ (by first | omega | (simp; done) | (simp; omega)) _ | refine Below.setCell ?_ (by first | omega | (simp; done) | (simp; omega)) _))⟩

theorem placesFor_any (a : Option Addr) (n c : Nat) (st kind : Int) (w : World) (hn : n ≤ 1048576) :
    Calls Tryz.prog 45 #[.agg #[.int .i64 st, .slice a n c], .int .i64 kind] w fun e w' => e = .returned (.int .i64 (if kind = 0 then (n : Int) + 1 else n)) ∧ Below w.heap.size w w' := by
  by_cases h : kind = 0
  · subst h
    go_enter Tryz.func45, Tryz.ntmps45
    go_wp2
    go_ret
    exact ⟨by simp, (by repeat (first | with_reducible assumption | exact Below.refl _ _ | refine below_drewN ?_ _ | refine Below.drew ?_ | refine Below.alloc ?_ (by first | omega | (simp; done) | (simp; omega)) _ | refine Below.setCell ?_ (by first | omega | (simp; done) | (simp; omega)) _))⟩
  · have h' : decide (kind = 0) = false := by simpa using h
    go_enter Tryz.func45, Tryz.ntmps45
    go_wp2
    go_ret
    exact ⟨by simp, (by repeat (first | with_reducible assumption | exact Below.refl _ _ | refine below_drewN ?_ _ | refine Below.drew ?_ | refine Below.alloc ?_ (by first | omega | (simp; done) | (simp; omega)) _ | refine Below.setCell ?_ (by first | omega | (simp; done) | (simp; omega)) _))⟩

def legEq (x1 x2 x3 x4 x5 y1 y2 y3 y4 y5 : Int) : Bool := decide (x1 = y1) && (decide (x2 = y2) && (decide (x3 = y3) && (decide (x4 = y4) && decide (x5 = y5))))
theorem run_legEq (x1 x2 x3 x4 x5 y1 y2 y3 y4 y5 : Int) (w : World) : (binOp .eql 39 (.agg #[.int .i64 x1, .int .i64 x2, .int .i64 x3, .int .i64 x4, .int .i64 x5]) (.agg #[.int .i64 y1, .int .i64 y2, .int .i64 y3, .int .i64 y4, .int .i64 y5])).run Tryz.prog w = .ok (.bool (legEq x1 x2 x3 x4 x5 y1 y2 y3 y4 y5)) w := by
  by_cases h1 : x1 = y1 <;> by_cases h2 : x2 = y2 <;> by_cases h3 : x3 = y3 <;> by_cases h4 : x4 = y4 <;> by_cases h5 : x5 = y5 <;> (go_simp; simp [legEq, h1, h2, h3, h4, h5])
theorem run_legNe (x1 x2 x3 x4 x5 y1 y2 y3 y4 y5 : Int) (w : World) : (binOp .neq 39 (.agg #[.int .i64 x1, .int .i64 x2, .int .i64 x3, .int .i64 x4, .int .i64 x5]) (.agg #[.int .i64 y1, .int .i64 y2, .int .i64 y3, .int .i64 y4, .int .i64 y5])).run Tryz.prog w = .ok (.bool (!legEq x1 x2 x3 x4 x5 y1 y2 y3 y4 y5)) w := by
  by_cases h1 : x1 = y1 <;> by_cases h2 : x2 = y2 <;> by_cases h3 : x3 = y3 <;> by_cases h4 : x4 = y4 <;> by_cases h5 : x5 = y5 <;> (go_simp; simp [legEq, h1, h2, h3, h4, h5])
theorem legEq_iff (g h : Lg) : legEq g.frm g.to g.east g.north g.up h.frm h.to h.east h.north h.up = decide (g = h) := by
  obtain ⟨x1, x2, x3, x4, x5⟩ := g
  obtain ⟨y1, y2, y3, y4, y5⟩ := h
  rw [Bool.eq_iff_iff]
  simp [legEq]
theorem legEq_no (g : Lg) : legEq g.frm g.to g.east g.north g.up 0 0 0 0 0 = decide (g = noLeg) := legEq_iff g noLeg

theorem deedFits_any (d : Dd) (w : World) :
    Calls Tryz.prog 43 #[d.val] w fun e w' => e = .returned (.bool (ddFits d)) ∧ Below w.heap.size w w' := by
  have HN := Lib.hid (legEq_no d.leg)
  obtain ⟨kd, ix, ⟨x1, x2, x3, x4, x5⟩⟩ := d
  simp only at HN
  show Calls Tryz.prog 43 #[.agg #[.int .i64 kd, .int .i64 ix, .int .i64 x1, .int .i64 x2, .int .i64 x3, .int .i64 x4, .int .i64 x5]] w _
  by_cases h0 : kd = 0
  · subst h0
    go_enter Tryz.func43, Tryz.ntmps43
    go_wp2
    go_ret
    exact ⟨by simp [ddFits], (by repeat (first | with_reducible assumption | exact Below.refl _ _ | refine below_drewN ?_ _ | refine Below.drew ?_ | refine Below.alloc ?_ (by first | omega | (simp; done) | (simp; omega)) _ | refine Below.setCell ?_ (by first | omega | (simp; done) | (simp; omega)) _))⟩
  by_cases h3 : kd = 3
  · subst h3
    go_enter Tryz.func43, Tryz.ntmps43
    go_wp2
    go_ret
    exact ⟨by simp [ddFits], (by repeat (first | with_reducible assumption | exact Below.refl _ _ | refine below_drewN ?_ _ | refine Below.drew ?_ | refine Below.alloc ?_ (by first | omega | (simp; done) | (simp; omega)) _ | refine Below.setCell ?_ (by first | omega | (simp; done) | (simp; omega)) _))⟩
  have hE := run_legEq x1 x2 x3 x4 x5 0 0 0 0 0
  by_cases h1 : kd = 1
  · subst h1
    go_enter Tryz.func43, Tryz.ntmps43
    go_wp2
    go_ret
    exact ⟨by simp [ddFits, ← HN.out], (by repeat (first | with_reducible assumption | exact Below.refl _ _ | refine below_drewN ?_ _ | refine Below.drew ?_ | refine Below.alloc ?_ (by first | omega | (simp; done) | (simp; omega)) _ | refine Below.setCell ?_ (by first | omega | (simp; done) | (simp; omega)) _))⟩
  by_cases h2 : kd = 2
  · subst h2
    go_enter Tryz.func43, Tryz.ntmps43
    go_wp2
    go_ret
    exact ⟨by simp [ddFits, ← HN.out], (by repeat (first | with_reducible assumption | exact Below.refl _ _ | refine below_drewN ?_ _ | refine Below.drew ?_ | refine Below.alloc ?_ (by first | omega | (simp; done) | (simp; omega)) _ | refine Below.setCell ?_ (by first | omega | (simp; done) | (simp; omega)) _))⟩
  by_cases h4 : kd = 4
  · subst h4
    cases hx : legEq x1 x2 x3 x4 x5 0 0 0 0 0
    · go_enter Tryz.func43, Tryz.ntmps43
      go_wp2
      go_ret
      exact ⟨by simp [ddFits, ← HN.out, hx], (by repeat (first | with_reducible assumption | exact Below.refl _ _ | refine below_drewN ?_ _ | refine Below.drew ?_ | refine Below.alloc ?_ (by first | omega | (simp; done) | (simp; omega)) _ | refine Below.setCell ?_ (by first | omega | (simp; done) | (simp; omega)) _))⟩
    · go_enter Tryz.func43, Tryz.ntmps43
      go_wp2
      go_ret
      exact ⟨by simp [ddFits, ← HN.out, hx]; rfl, (by repeat (first | with_reducible assumption | exact Below.refl _ _ | refine below_drewN ?_ _ | refine Below.drew ?_ | refine Below.alloc ?_ (by first | omega | (simp; done) | (simp; omega)) _ | refine Below.setCell ?_ (by first | omega | (simp; done) | (simp; omega)) _))⟩
  by_cases h5 : kd = 5
  · subst h5
    cases hx : legEq x1 x2 x3 x4 x5 0 0 0 0 0
    · go_enter Tryz.func43, Tryz.ntmps43
      go_wp2
      go_ret
      exact ⟨by simp [ddFits, ← HN.out, hx], (by repeat (first | with_reducible assumption | exact Below.refl _ _ | refine below_drewN ?_ _ | refine Below.drew ?_ | refine Below.alloc ?_ (by first | omega | (simp; done) | (simp; omega)) _ | refine Below.setCell ?_ (by first | omega | (simp; done) | (simp; omega)) _))⟩
    · go_enter Tryz.func43, Tryz.ntmps43
      go_wp2
      go_ret
      exact ⟨by simp [ddFits, ← HN.out, hx]; rfl, (by repeat (first | with_reducible assumption | exact Below.refl _ _ | refine below_drewN ?_ _ | refine Below.drew ?_ | refine Below.alloc ?_ (by first | omega | (simp; done) | (simp; omega)) _ | refine Below.setCell ?_ (by first | omega | (simp; done) | (simp; omega)) _))⟩
  · go_enter Tryz.func43, Tryz.ntmps43
    go_wp2
    go_ret
    exact ⟨by simp [ddFits, h0, h1, h2, h3, h4, h5], (by repeat (first | with_reducible assumption | exact Below.refl _ _ | refine below_drewN ?_ _ | refine Below.drew ?_ | refine Below.alloc ?_ (by first | omega | (simp; done) | (simp; omega)) _ | refine Below.setCell ?_ (by first | omega | (simp; done) | (simp; omega)) _))⟩

/-- a deed as the reference takes it -/
def ddIn (d : Dd) : Bool := inB d.kind 0 5 && inB d.index 0 9 && (!(decide (d.kind = 4) || decide (d.kind = 5)) || decide (d.index = 0)) && (if d.kind = 0 ∨ d.kind = 3 then legOk 6 d.leg else decide (d.leg = noLeg))
set_option maxHeartbeats 2000000 in
theorem l7Deed_any (d : Dd) (w : World) :
    Calls Tryz.prog 31 #[d.val] w fun e w' => e = .returned (.bool (ddIn d)) ∧ Below w.heap.size w w' := by
  have HN := Lib.hid (legEq_no d.leg)
  obtain ⟨kd, ix, ⟨x1, x2, x3, x4, x5⟩⟩ := d
  simp only at HN
  show Calls Tryz.prog 31 #[.agg #[.int .i64 kd, .int .i64 ix, .int .i64 x1, .int .i64 x2, .int .i64 x3, .int .i64 x4, .int .i64 x5]] w _
  cases h1 : inB kd 0 5
  · have hk : kd ≠ 0 ∧ kd ≠ 3 ∧ kd ≠ 4 ∧ kd ≠ 5 := by simp [inB] at h1; omega
    obtain ⟨h0, h3, h4, h5⟩ := hk
    go_enter Tryz.func31, Tryz.ntmps31
    go_wp2_with (go_at_call 32; refine (l1In_any _ _ _ _).mono ?_; rintro e w' ⟨rfl, rfl⟩)
    go_ret
    exact ⟨by simp [ddIn, h1], (by repeat (first | with_reducible assumption | exact Below.refl _ _ | refine below_drewN ?_ _ | refine Below.drew ?_ | refine Below.alloc ?_ (by first | omega | (simp; done) | (simp; omega)) _ | refine Below.setCell ?_ (by first | omega | (simp; done) | (simp; omega)) _))⟩
  cases h2 : inB ix 0 9
  · by_cases h0 : kd = 0
    · subst h0
      go_enter Tryz.func31, Tryz.ntmps31
      go_wp2_with (go_at_call 32; refine (l1In_any _ _ _ _).mono ?_; rintro e w' ⟨rfl, rfl⟩)
      go_ret
      exact ⟨by simp [ddIn, h2], (by repeat (first | with_reducible assumption | exact Below.refl _ _ | refine below_drewN ?_ _ | refine Below.drew ?_ | refine Below.alloc ?_ (by first | omega | (simp; done) | (simp; omega)) _ | refine Below.setCell ?_ (by first | omega | (simp; done) | (simp; omega)) _))⟩
    by_cases h4 : kd = 4
    · subst h4
      go_enter Tryz.func31, Tryz.ntmps31
      go_wp2_with (go_at_call 32; refine (l1In_any _ _ _ _).mono ?_; rintro e w' ⟨rfl, rfl⟩)
      go_ret
      exact ⟨by simp [ddIn, h2], (by repeat (first | with_reducible assumption | exact Below.refl _ _ | refine below_drewN ?_ _ | refine Below.drew ?_ | refine Below.alloc ?_ (by first | omega | (simp; done) | (simp; omega)) _ | refine Below.setCell ?_ (by first | omega | (simp; done) | (simp; omega)) _))⟩
    go_enter Tryz.func31, Tryz.ntmps31
    go_wp2_with (go_at_call 32; refine (l1In_any _ _ _ _).mono ?_; rintro e w' ⟨rfl, rfl⟩)
    go_ret
    exact ⟨by simp [ddIn, h2], (by repeat (first | with_reducible assumption | exact Below.refl _ _ | refine below_drewN ?_ _ | refine Below.drew ?_ | refine Below.alloc ?_ (by first | omega | (simp; done) | (simp; omega)) _ | refine Below.setCell ?_ (by first | omega | (simp; done) | (simp; omega)) _))⟩
  have hk : kd = 0 ∨ kd = 1 ∨ kd = 2 ∨ kd = 3 ∨ kd = 4 ∨ kd = 5 := by simp [inB] at h1; omega
  have hE := run_legEq x1 x2 x3 x4 x5 0 0 0 0 0
  rcases hk with rfl | rfl | rfl | rfl | rfl | rfl
  · cases hv : legOk 6 ⟨x1, x2, x3, x4, x5⟩
    · clear hE
      go_enter Tryz.func31, Tryz.ntmps31
      go_wp2_with (first | (go_at_call 32; refine (l1In_any _ _ _ _).mono ?_; rintro e w' ⟨rfl, rfl⟩) | (go_at_call 56; refine (slegValid_any 6 ⟨x1, x2, x3, x4, x5⟩ _).mono ?_; rintro e w' ⟨rfl, hb⟩; rw [hv]))
      go_ret
      exact ⟨by simp [ddIn, hv], Below.trans (by repeat (first | with_reducible assumption | exact Below.refl _ _ | refine below_drewN ?_ _ | refine Below.drew ?_ | refine Below.alloc ?_ (by first | omega | (simp; done) | (simp; omega)) _ | refine Below.setCell ?_ (by first | omega | (simp; done) | (simp; omega)) _)) (hb.mono (by simp))⟩
    · clear hE
      go_enter Tryz.func31, Tryz.ntmps31
      go_wp2_with (first | (go_at_call 32; refine (l1In_any _ _ _ _).mono ?_; rintro e w' ⟨rfl, rfl⟩) | (go_at_call 56; refine (slegValid_any 6 ⟨x1, x2, x3, x4, x5⟩ _).mono ?_; rintro e w' ⟨rfl, hb⟩; rw [hv]))
      go_ret
      exact ⟨by simp [ddIn, h1, h2, hv], Below.trans (by repeat (first | with_reducible assumption | exact Below.refl _ _ | refine below_drewN ?_ _ | refine Below.drew ?_ | refine Below.alloc ?_ (by first | omega | (simp; done) | (simp; omega)) _ | refine Below.setCell ?_ (by first | omega | (simp; done) | (simp; omega)) _)) (hb.mono (by simp))⟩
  · go_enter Tryz.func31, Tryz.ntmps31
    go_wp2_with (first | (go_at_call 32; refine (l1In_any _ _ _ _).mono ?_; rintro e w' ⟨rfl, rfl⟩))
    all_goals
      go_ret
      exact ⟨by simp [ddIn, h1, h2, ← HN.out], (by repeat (first | with_reducible assumption | exact Below.refl _ _ | refine below_drewN ?_ _ | refine Below.drew ?_ | refine Below.alloc ?_ (by first | omega | (simp; done) | (simp; omega)) _ | refine Below.setCell ?_ (by first | omega | (simp; done) | (simp; omega)) _))⟩
  · go_enter Tryz.func31, Tryz.ntmps31
    go_wp2_with (first | (go_at_call 32; refine (l1In_any _ _ _ _).mono ?_; rintro e w' ⟨rfl, rfl⟩))
    all_goals
      go_ret
      exact ⟨by simp [ddIn, h1, h2, ← HN.out], (by repeat (first | with_reducible assumption | exact Below.refl _ _ | refine below_drewN ?_ _ | refine Below.drew ?_ | refine Below.alloc ?_ (by first | omega | (simp; done) | (simp; omega)) _ | refine Below.setCell ?_ (by first | omega | (simp; done) | (simp; omega)) _))⟩
  · cases hv : legOk 6 ⟨x1, x2, x3, x4, x5⟩
    · clear hE
      go_enter Tryz.func31, Tryz.ntmps31
      go_wp2_with (first | (go_at_call 32; refine (l1In_any _ _ _ _).mono ?_; rintro e w' ⟨rfl, rfl⟩) | (go_at_call 56; refine (slegValid_any 6 ⟨x1, x2, x3, x4, x5⟩ _).mono ?_; rintro e w' ⟨rfl, hb⟩; rw [hv]))
      go_ret
      exact ⟨by simp [ddIn, hv], Below.trans (by repeat (first | with_reducible assumption | exact Below.refl _ _ | refine below_drewN ?_ _ | refine Below.drew ?_ | refine Below.alloc ?_ (by first | omega | (simp; done) | (simp; omega)) _ | refine Below.setCell ?_ (by first | omega | (simp; done) | (simp; omega)) _)) (hb.mono (by simp))⟩
    · clear hE
      go_enter Tryz.func31, Tryz.ntmps31
      go_wp2_with (first | (go_at_call 32; refine (l1In_any _ _ _ _).mono ?_; rintro e w' ⟨rfl, rfl⟩) | (go_at_call 56; refine (slegValid_any 6 ⟨x1, x2, x3, x4, x5⟩ _).mono ?_; rintro e w' ⟨rfl, hb⟩; rw [hv]))
      go_ret
      exact ⟨by simp [ddIn, h1, h2, hv], Below.trans (by repeat (first | with_reducible assumption | exact Below.refl _ _ | refine below_drewN ?_ _ | refine Below.drew ?_ | refine Below.alloc ?_ (by first | omega | (simp; done) | (simp; omega)) _ | refine Below.setCell ?_ (by first | omega | (simp; done) | (simp; omega)) _)) (hb.mono (by simp))⟩
  · by_cases hi : ix = 0
    · subst hi
      go_enter Tryz.func31, Tryz.ntmps31
      go_wp2_with (first | (go_at_call 32; refine (l1In_any _ _ _ _).mono ?_; rintro e w' ⟨rfl, rfl⟩))
      all_goals
        go_ret
        exact ⟨by simp [ddIn, h1, h2, ← HN.out], (by repeat (first | with_reducible assumption | exact Below.refl _ _ | refine below_drewN ?_ _ | refine Below.drew ?_ | refine Below.alloc ?_ (by first | omega | (simp; done) | (simp; omega)) _ | refine Below.setCell ?_ (by first | omega | (simp; done) | (simp; omega)) _))⟩
    · go_enter Tryz.func31, Tryz.ntmps31
      go_wp2_with (first | (go_at_call 32; refine (l1In_any _ _ _ _).mono ?_; rintro e w' ⟨rfl, rfl⟩))
      all_goals
        go_ret
        exact ⟨by simp [ddIn, hi], (by repeat (first | with_reducible assumption | exact Below.refl _ _ | refine below_drewN ?_ _ | refine Below.drew ?_ | refine Below.alloc ?_ (by first | omega | (simp; done) | (simp; omega)) _ | refine Below.setCell ?_ (by first | omega | (simp; done) | (simp; omega)) _))⟩
  · by_cases hi : ix = 0
    · subst hi
      go_enter Tryz.func31, Tryz.ntmps31
      go_wp2_with (first | (go_at_call 32; refine (l1In_any _ _ _ _).mono ?_; rintro e w' ⟨rfl, rfl⟩))
      all_goals
        go_ret
        exact ⟨by simp [ddIn, h1, h2, ← HN.out], (by repeat (first | with_reducible assumption | exact Below.refl _ _ | refine below_drewN ?_ _ | refine Below.drew ?_ | refine Below.alloc ?_ (by first | omega | (simp; done) | (simp; omega)) _ | refine Below.setCell ?_ (by first | omega | (simp; done) | (simp; omega)) _))⟩
    · go_enter Tryz.func31, Tryz.ntmps31
      go_wp2_with (first | (go_at_call 32; refine (l1In_any _ _ _ _).mono ?_; rintro e w' ⟨rfl, rfl⟩))
      all_goals
        go_ret
        exact ⟨by simp [ddIn, hi], (by repeat (first | with_reducible assumption | exact Below.refl _ _ | refine below_drewN ?_ _ | refine Below.drew ?_ | refine Below.alloc ?_ (by first | omega | (simp; done) | (simp; omega)) _ | refine Below.setCell ?_ (by first | omega | (simp; done) | (simp; omega)) _))⟩
end Go.Proofs.YtgggbapcpjfljaaGreatDoor
