/- Walks: spec.DeedText; the law FnExactDeedText. -/
import Derived.Test.YtgggbapcpjfljaaGreatDoorTX4
import Derived.Test.YtgggbapcpjfljaaGreatDoorG14
namespace Go.Proofs.YtgggbapcpjfljaaGreatDoor
open Go Go.RowKit Go.Sort

set_option maxHeartbeats 1000000 in
theorem sdeedText_any (d : Dd) (w : World) :
    Calls Tryz.prog 29 #[d.val] w fun e w' => e = .returned (.string (deedB d)) ∧ Below w.heap.size w w' := by
  have i1 := l7Deed_any d
  cases hf : ddIn d
  · have hB : deedB d = ⟨#[]⟩ := by unfold deedB; rw [if_neg]; rw [hf]; decide
    rw [hf] at i1
    obtain ⟨kd, ix, ⟨x1, x2, x3, x4, x5⟩⟩ := d
    simp only [Dd.val] at i1
    show Calls Tryz.prog 29 #[.agg #[.int .i64 kd, .int .i64 ix, .int .i64 x1, .int .i64 x2, .int .i64 x3, .int .i64 x4, .int .i64 x5]] w _
    have HB := Lib.hid hB
    clear hB hf
    go_enter Tryz.func29, Tryz.ntmps29
    go_wp2_with (go_at_call 31; refine (i1 _).mono ?_; rintro e w1 ⟨rfl, b1⟩)
    go_ret
    exact ⟨by rw [HB.out]; first | done | rfl, (by repeat (first | with_reducible assumption | with_reducible exact Below.refl _ _ | refine Below.setCell ?_ (by first | omega | (simp; done) | (simp; omega)) _ | refine Below.alloc ?_ (by first | omega | (simp; done) | (simp; omega)) _ | with_reducible exact Below.trans (Below.refl _ _) b1 | refine Below.trans ?_ (Below.mono b1 (by first | omega | (simp; done) | (simp; omega))) | refine below_drewN ?_ _ | refine Below.drew ?_))⟩
  rw [hf] at i1
  have hf' := hf
  unfold ddIn at hf'
  simp only [Bool.and_eq_true, inB, decide_eq_true_eq] at hf'
  have hk : (0 ≤ d.kind ∧ d.kind ≤ 5) ∧ (0 ≤ d.index ∧ d.index ≤ 9) := by omega
  have hl : (d.kind = 0 ∨ d.kind = 3) → legOk 6 d.leg = true := fun h => by have := hf'.2; rwa [if_pos h] at this
  obtain ⟨hk1, hk2⟩ := hk
  have i2 := l7Name_any d.kind hk1
  have i3 := l1Num_any d.index (by omega) (by omega)
  have i4 := slegText_any d.leg
  have z1 := nameB_size d.kind
  have z2 := itoaB_size (n := d.index) (by omega) (by omega)
  by_cases h4 : 4 ≤ d.kind
  · have hB : deedB d = nameB d.kind := by
      unfold deedB; rw [if_pos hf, if_neg (by omega), if_neg (by omega)]
    obtain ⟨kd, ix, ⟨x1, x2, x3, x4, x5⟩⟩ := d
    simp only [Dd.val] at i1 i2 z1 h4 hk1
    show Calls Tryz.prog 29 #[.agg #[.int .i64 kd, .int .i64 ix, .int .i64 x1, .int .i64 x2, .int .i64 x3, .int .i64 x4, .int .i64 x5]] w _
    have HB := Lib.hid hB
    have hk' : kd = 4 ∨ kd = 5 := by omega
    clear hB hf hf' h4 hk1 hl
    rcases hk' with rfl | rfl
    all_goals
      go_enter Tryz.func29, Tryz.ntmps29
      go_wp2_with (first | (go_at_call 31; refine (i1 _).mono ?_; rintro e w1 ⟨rfl, b1⟩; have q1 : Below w.heap.size w w1 := ((Below.refl _ _).alloc (Nat.le_refl _) _).trans (b1.mono (by simp)); obtain ⟨hc1, _hf1⟩ := bcell b1) | (go_at_call 28; refine (i2 _).mono ?_; rintro e w2 ⟨rfl, b2⟩; have q2 := q1.trans (b2.mono q1.size); obtain ⟨hc2, _hf2⟩ := bcell (b1.trans (b2.mono b1.size))))
      go_ret
      exact ⟨by rw [HB.out]; first | done | rfl, q2⟩
  by_cases h03 : d.kind = 0 ∨ d.kind = 3
  · have hB : deedB d = nameB d.kind ++ ⟨#[32]⟩ ++ itoaB d.index ++ ⟨#[32]⟩ ++ legB d.leg := by
      unfold deedB; rw [if_pos hf, if_pos h03]; simp only [ByteArray.append_assoc]
    have z3 := (legB_size (hl h03)).2
    obtain ⟨kd, ix, g⟩ := d
    obtain ⟨L, hL⟩ : ∃ L, L = legB g := ⟨_, rfl⟩
    simp only at hB i4 z3
    rw [← hL] at i4 hB z3
    obtain ⟨x1, x2, x3, x4, x5⟩ := g
    simp only [Dd.val, Lg.val] at i1 i2 i3 i4 z1 z2 h03 hB
    show Calls Tryz.prog 29 #[.agg #[.int .i64 kd, .int .i64 ix, .int .i64 x1, .int .i64 x2, .int .i64 x3, .int .i64 x4, .int .i64 x5]] w _
    have HB := Lib.hid hB
    clear hB hf hf' h4 hk1 hk2 hl hL
    rcases h03 with rfl | rfl
    all_goals
      go_enter Tryz.func29, Tryz.ntmps29
      go_wp2_with (first | (go_at_call 31; refine (i1 _).mono ?_; rintro e w1 ⟨rfl, b1⟩; have q1 : Below w.heap.size w w1 := ((Below.refl _ _).alloc (Nat.le_refl _) _).trans (b1.mono (by simp)); obtain ⟨hc1, _hf1⟩ := bcell b1) | (go_at_call 28; refine (i2 _).mono ?_; rintro e w2 ⟨rfl, b2⟩; have q2 := q1.trans (b2.mono q1.size); have r2 := b1.trans (b2.mono b1.size); obtain ⟨hc2, _hf2⟩ := bcell r2) | (go_at_call 55; refine (i3 _).mono ?_; rintro e w3 ⟨rfl, b3⟩; have q3 := q2.trans (b3.mono q2.size); have r3 := r2.trans (b3.mono r2.size); obtain ⟨hc3, _hf3⟩ := bcell r3) | (go_at_call 54; refine (i4 _).mono ?_; rintro e w4 ⟨rfl, b4⟩; have q4 := q3.trans (b4.mono q3.size)))
      go_ret
      exact ⟨by rw [HB.out]; first | done | rfl, q4⟩
  have hB : deedB d = nameB d.kind ++ ⟨#[32]⟩ ++ itoaB d.index := by
    unfold deedB; rw [if_pos hf, if_neg h03, if_pos (by omega)]; simp only [ByteArray.append_assoc]
  obtain ⟨kd, ix, ⟨x1, x2, x3, x4, x5⟩⟩ := d
  simp only [Dd.val] at i1 i2 i3 z1 z2 h03 hB h4 hk1
  show Calls Tryz.prog 29 #[.agg #[.int .i64 kd, .int .i64 ix, .int .i64 x1, .int .i64 x2, .int .i64 x3, .int .i64 x4, .int .i64 x5]] w _
  have HB := Lib.hid hB
  have hk' : kd = 1 ∨ kd = 2 := by omega
  clear hB hf hf' h4 hk1 hk2 hl h03 i4
  rcases hk' with rfl | rfl
  all_goals
    go_enter Tryz.func29, Tryz.ntmps29
    go_wp2_with (first | (go_at_call 31; refine (i1 _).mono ?_; rintro e w1 ⟨rfl, b1⟩; have q1 : Below w.heap.size w w1 := ((Below.refl _ _).alloc (Nat.le_refl _) _).trans (b1.mono (by simp)); obtain ⟨hc1, _hf1⟩ := bcell b1) | (go_at_call 28; refine (i2 _).mono ?_; rintro e w2 ⟨rfl, b2⟩; have q2 := q1.trans (b2.mono q1.size); have r2 := b1.trans (b2.mono b1.size); obtain ⟨hc2, _hf2⟩ := bcell r2) | (go_at_call 55; refine (i3 _).mono ?_; rintro e w3 ⟨rfl, b3⟩; have q3 := q2.trans (b3.mono q2.size); have r3 := r2.trans (b3.mono r2.size); obtain ⟨hc3, _hf3⟩ := bcell r3))
    go_ret
    exact ⟨by rw [HB.out]; first | done | rfl, q3⟩

end Go.Proofs.YtgggbapcpjfljaaGreatDoor
