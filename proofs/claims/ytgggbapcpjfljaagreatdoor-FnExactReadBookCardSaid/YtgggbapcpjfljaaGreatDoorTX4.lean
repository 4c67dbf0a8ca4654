/- Walks: texts of deeds, impl and spec. -/
import Derived.Test.YtgggbapcpjfljaaGreatDoorTX3
namespace Go.Proofs.YtgggbapcpjfljaaGreatDoor
open Go Go.RowKit Go.Sort

/-- the text of a deed -/
def deedB (d : Dd) : ByteArray :=
  if ddIn d then (if d.kind = 0 ∨ d.kind = 3 then nameB d.kind ++ (⟨#[32]⟩ ++ itoaB d.index) ++ (⟨#[32]⟩ ++ legB d.leg) else if d.kind < 4 then nameB d.kind ++ (⟨#[32]⟩ ++ itoaB d.index) else nameB d.kind) else ⟨#[]⟩

theorem nameB_size (k : Int) : (nameB k).size ≤ 4 := by
  unfold nameB
  repeat' (first | split | decide)
theorem legB_size {g : Lg} (h : legOk 6 g = true) : 1 ≤ (legB g).size ∧ (legB g).size ≤ 200 := by
  obtain ⟨hr1, hr2, hr3, hr4, hr5⟩ := legOk_range (by omega) h
  have s1 := itoaB_size (n := g.frm) (by omega) (by omega)
  have s2 := itoaB_size (n := g.to) (by omega) (by omega)
  have s3 := itoaB_size (n := g.east) (by omega) (by omega)
  have s4 := itoaB_size (n := g.north) (by omega) (by omega)
  have s5 := itoaB_size (n := g.up) (by omega) (by omega)
  unfold legB wayB
  rw [if_pos h]
  simp only [ByteArray.size_append]
  have a1 : (⟨#[62]⟩ : ByteArray).size = 1 := rfl
  have a2 : (⟨#[58]⟩ : ByteArray).size = 1 := rfl
  have a3 : (⟨#[44]⟩ : ByteArray).size = 1 := rfl
  rw [a1, a2, a3]
  omega
theorem legB_ne {g : Lg} (h : legOk 6 g = true) : legB g ≠ ⟨#[]⟩ := fun e => by
  have := (legB_size h).1
  rw [e] at this
  exact absurd this (by decide)

theorem ddIn_fits {d : Dd} (h : ddIn d = true) : ddFits d = true := by
  unfold ddIn at h; unfold ddFits
  simp only [Bool.and_eq_true, Bool.or_eq_true, Bool.not_eq_true', decide_eq_true_eq, inB] at h
  obtain ⟨⟨⟨⟨h1, h2⟩, h3⟩, h4⟩, h5⟩ := h
  by_cases a : d.kind = 0 ∨ d.kind = 3
  · rw [if_pos a]
  rw [if_neg a] at h5 ⊢
  by_cases b : d.kind = 1 ∨ d.kind = 2
  · rw [if_pos b]; exact h5
  rw [if_neg b, if_pos (by omega)]
  rcases h4 with h4 | h4
  · simp at h4; omega
  · simp [h4] at h5 ⊢; exact h5

set_option maxHeartbeats 2000000 in
theorem deedText_any (d : Dd) (w : World) (hp : Pow w) :
    Calls Tryz.prog 41 #[d.val] w fun e w' => e = .returned (.string (deedB d)) ∧ Below w.heap.size w w' := by
  cases hf : ddFits d
  · have hB : deedB d = ⟨#[]⟩ := by unfold deedB; rw [if_neg]; intro h; rw [ddIn_fits h] at hf; cases hf
    have i1 := deedFits_any d
    rw [hf] at i1
    obtain ⟨kd, ix, ⟨x1, x2, x3, x4, x5⟩⟩ := d
    simp only [Dd.val] at i1
    show Calls Tryz.prog 41 #[.agg #[.int .i64 kd, .int .i64 ix, .int .i64 x1, .int .i64 x2, .int .i64 x3, .int .i64 x4, .int .i64 x5]] w _
    have HB := Lib.hid hB
    clear hB hf
    go_enter Tryz.func41, Tryz.ntmps41
    go_wp2_with (go_at_call 43; refine (i1 _).mono ?_; rintro e w1 ⟨rfl, b1⟩)
    go_ret
    exact ⟨by rw [HB.out]; first | done | rfl, (by repeat (first | with_reducible assumption | with_reducible exact Below.refl _ _ | refine Below.setCell ?_ (by first | omega | (simp; done) | (simp; omega)) _ | refine Below.alloc ?_ (by first | omega | (simp; done) | (simp; omega)) _ | with_reducible exact Below.trans (Below.refl _ _) b1 | refine Below.trans ?_ (Below.mono b1 (by first | omega | (simp; done) | (simp; omega))) | refine below_drewN ?_ _ | refine Below.drew ?_))⟩
  have i1 := deedFits_any d
  rw [hf] at i1
  have hk : d.kind = 0 ∨ d.kind = 1 ∨ d.kind = 2 ∨ d.kind = 3 ∨ d.kind = 4 ∨ d.kind = 5 := by
    unfold ddFits at hf
    by_cases a : d.kind = 0 ∨ d.kind = 3
    · omega
    rw [if_neg a] at hf
    by_cases b : d.kind = 1 ∨ d.kind = 2
    · omega
    rw [if_neg b] at hf
    by_cases c : d.kind = 4 ∨ d.kind = 5
    · omega
    rw [if_neg c] at hf; cases hf
  have i2 := deedWord_any d.kind (by omega)
  have z1 := nameB_size d.kind
  by_cases h4 : 4 ≤ d.kind
  · have hB : deedB d = nameB d.kind := by
      unfold deedB
      rw [if_pos, if_neg (by omega), if_neg (by omega)]
      unfold ddFits at hf; unfold ddIn
      rw [if_neg (by omega), if_neg (by omega), if_pos (by omega)] at hf
      rw [if_neg (by omega)]
      simp at hf
      simp [hf.1, hf.2, inB]; omega
    obtain ⟨kd, ix, ⟨x1, x2, x3, x4, x5⟩⟩ := d
    simp only [Dd.val] at i1 i2 z1 h4 hk
    show Calls Tryz.prog 41 #[.agg #[.int .i64 kd, .int .i64 ix, .int .i64 x1, .int .i64 x2, .int .i64 x3, .int .i64 x4, .int .i64 x5]] w _
    have HB := Lib.hid hB
    have hk' : kd = 4 ∨ kd = 5 := by omega
    clear hB hf hk h4
    rcases hk' with rfl | rfl
    all_goals
      go_enter Tryz.func41, Tryz.ntmps41
      go_wp2_with (first | (go_at_call 43; refine (i1 _).mono ?_; rintro e w1 ⟨rfl, b1⟩; obtain ⟨hc, _hf⟩ := bcell b1) | (go_at_call 40; refine (i2 _).mono ?_; rintro e w' ⟨rfl, rfl⟩))
      go_ret
      exact ⟨by rw [HB.out]; first | done | rfl, (by repeat (first | with_reducible assumption | with_reducible exact Below.refl _ _ | refine Below.setCell ?_ (by first | omega | (simp; done) | (simp; omega)) _ | refine Below.alloc ?_ (by first | omega | (simp; done) | (simp; omega)) _ | with_reducible exact Below.trans (Below.refl _ _) b1 | refine Below.trans ?_ (Below.mono b1 (by first | omega | (simp; done) | (simp; omega))) | refine below_drewN ?_ _ | refine Below.drew ?_))⟩
  cases hi : isIdx d.index 10
  · have hB : deedB d = ⟨#[]⟩ := by
      unfold deedB; rw [if_neg]; intro h
      unfold ddIn at h
      simp only [Bool.and_eq_true, inB, decide_eq_true_eq] at h
      simp [isIdx] at hi
      omega
    obtain ⟨kd, ix, ⟨x1, x2, x3, x4, x5⟩⟩ := d
    simp only [Dd.val] at i1 i2 z1 h4 hk hi
    show Calls Tryz.prog 41 #[.agg #[.int .i64 kd, .int .i64 ix, .int .i64 x1, .int .i64 x2, .int .i64 x3, .int .i64 x4, .int .i64 x5]] w _
    have HB := Lib.hid hB
    have n4 : kd < 4 := by omega
    clear hB hf hk h4
    go_enter Tryz.func41, Tryz.ntmps41
    go_wp2_with (first | (go_at_call 43; refine (i1 _).mono ?_; rintro e w1 ⟨rfl, b1⟩; obtain ⟨hc, _hf⟩ := bcell b1) | (go_at_call 40; refine (i2 _).mono ?_; rintro e w' ⟨rfl, rfl⟩) | (go_at_call 44; refine (isIndex_any _ _ _).mono ?_; rintro e w' ⟨rfl, rfl⟩))
    go_ret
    exact ⟨by rw [HB.out]; first | done | rfl, (by repeat (first | with_reducible assumption | with_reducible exact Below.refl _ _ | refine Below.setCell ?_ (by first | omega | (simp; done) | (simp; omega)) _ | refine Below.alloc ?_ (by first | omega | (simp; done) | (simp; omega)) _ | with_reducible exact Below.trans (Below.refl _ _) b1 | refine Below.trans ?_ (Below.mono b1 (by first | omega | (simp; done) | (simp; omega))) | refine below_drewN ?_ _ | refine Below.drew ?_))⟩
  have hix : 0 ≤ d.index ∧ d.index < 10 := by simpa [isIdx] using hi
  have i3 := itoa_any d.index (by omega) (by omega)
  have z2 := itoaB_size (n := d.index) (by omega) (by omega)
  have i4 := legText_any d.leg
  by_cases h03 : d.kind = 0 ∨ d.kind = 3
  · cases hl : legOk 6 d.leg
    · have hB : deedB d = ⟨#[]⟩ := by
        unfold deedB; rw [if_neg]; intro h
        unfold ddIn at h
        rw [if_pos h03, hl] at h
        simp at h
      have hL : legB d.leg = ⟨#[]⟩ := by simp [legB, hl]
      rw [hL] at i4
      obtain ⟨kd, ix, ⟨x1, x2, x3, x4, x5⟩⟩ := d
      simp only [Dd.val, Lg.val] at i1 i2 i3 i4 z1 z2 h4 hk hi h03
      show Calls Tryz.prog 41 #[.agg #[.int .i64 kd, .int .i64 ix, .int .i64 x1, .int .i64 x2, .int .i64 x3, .int .i64 x4, .int .i64 x5]] w _
      have HB := Lib.hid hB
      clear hB hf hk h4 hix hl hL
      rcases h03 with rfl | rfl
      all_goals
        go_enter Tryz.func41, Tryz.ntmps41
        go_wp2_with (first | (go_at_call 43; refine (i1 _).mono ?_; rintro e w1 ⟨rfl, b1⟩; have q1 : Below w.heap.size w w1 := ((Below.refl _ _).alloc (Nat.le_refl _) _).trans (b1.mono (by simp)); obtain ⟨hc1, _hf1⟩ := bcell b1) | (go_at_call 40; refine (i2 _).mono ?_; rintro e w' ⟨rfl, rfl⟩) | (go_at_call 44; refine (isIndex_any _ _ _).mono ?_; rintro e w' ⟨rfl, rfl⟩) | (go_at_call 62; refine (i3 _ (hp.below q1)).mono ?_; rintro e w2 ⟨rfl, b2⟩; have q2 := q1.trans (b2.mono q1.size); obtain ⟨hc2, _hf2⟩ := bcell (b1.trans (b2.mono b1.size))) | (go_at_call 61; refine (i4 _ (hp.below q2)).mono ?_; rintro e w3 ⟨rfl, b3⟩; have q3 := q2.trans (b3.mono q2.size)))
        go_ret
        exact ⟨by rw [HB.out]; first | done | rfl, q3⟩
    have hB : deedB d = nameB d.kind ++ (⟨#[32]⟩ ++ itoaB d.index) ++ (⟨#[32]⟩ ++ legB d.leg) := by
      unfold deedB
      rw [if_pos, if_pos h03]
      unfold ddIn
      rw [if_pos h03, hl]
      simp [inB]; omega
    have hne := legB_ne hl
    have z3 := (legB_size hl).2
    have hne2 : (legB d.leg).toList.isEmpty = false := by
      rw [Lib.toList_data]
      cases h : (legB d.leg).data.toList with
      | nil => exact absurd (ByteArray.ext (Array.ext' (by simpa using h))) hne
      | cons _ _ => rfl
    obtain ⟨kd, ix, g⟩ := d
    obtain ⟨L, hL⟩ : ∃ L, L = legB g := ⟨_, rfl⟩
    rw [← hL] at i4 hB hne hne2 z3
    obtain ⟨x1, x2, x3, x4, x5⟩ := g
    simp only [Dd.val, Lg.val] at i1 i2 i3 i4 z1 z2 h4 hk hi h03 hB
    show Calls Tryz.prog 41 #[.agg #[.int .i64 kd, .int .i64 ix, .int .i64 x1, .int .i64 x2, .int .i64 x3, .int .i64 x4, .int .i64 x5]] w _
    have HB := Lib.hid hB
    clear hB hf hk h4 hix hl hL
    rcases h03 with rfl | rfl
    all_goals
      go_enter Tryz.func41, Tryz.ntmps41
      go_wp2_with (first | (go_at_call 43; refine (i1 _).mono ?_; rintro e w1 ⟨rfl, b1⟩; have q1 : Below w.heap.size w w1 := ((Below.refl _ _).alloc (Nat.le_refl _) _).trans (b1.mono (by simp)); obtain ⟨hc1, _hf1⟩ := bcell b1) | (go_at_call 40; refine (i2 _).mono ?_; rintro e w' ⟨rfl, rfl⟩) | (go_at_call 44; refine (isIndex_any _ _ _).mono ?_; rintro e w' ⟨rfl, rfl⟩) | (go_at_call 62; refine (i3 _ (hp.below q1)).mono ?_; rintro e w2 ⟨rfl, b2⟩; have q2 := q1.trans (b2.mono q1.size); obtain ⟨hc2, _hf2⟩ := bcell (b1.trans (b2.mono b1.size))) | (go_at_call 61; refine (i4 _ (hp.below q2)).mono ?_; rintro e w3 ⟨rfl, b3⟩; have q3 := q2.trans (b3.mono q2.size)))
      go_ret
      exact ⟨by rw [HB.out]; first | done | rfl, q3⟩
  have hB : deedB d = if ddIn d then nameB d.kind ++ (⟨#[32]⟩ ++ itoaB d.index) else ⟨#[]⟩ := by
    unfold deedB
    rw [if_neg h03, if_pos (show d.kind < 4 by omega)]
  have hin : ddIn d = true := by
    unfold ddIn; unfold ddFits at hf
    rw [if_neg h03, if_pos (by omega)] at hf
    rw [if_neg h03, hf]
    simp [inB]; omega
  rw [if_pos hin] at hB
  obtain ⟨kd, ix, ⟨x1, x2, x3, x4, x5⟩⟩ := d
  simp only [Dd.val, Lg.val] at i1 i2 i3 i4 z1 z2 h4 hk hi h03 hB
  show Calls Tryz.prog 41 #[.agg #[.int .i64 kd, .int .i64 ix, .int .i64 x1, .int .i64 x2, .int .i64 x3, .int .i64 x4, .int .i64 x5]] w _
  have HB := Lib.hid hB
  have hk' : kd = 1 ∨ kd = 2 := by omega
  clear hB hf hk h4 hix hin h03 i4
  rcases hk' with rfl | rfl
  all_goals
    go_enter Tryz.func41, Tryz.ntmps41
    go_wp2_with (first | (go_at_call 43; refine (i1 _).mono ?_; rintro e w1 ⟨rfl, b1⟩; have q1 : Below w.heap.size w w1 := ((Below.refl _ _).alloc (Nat.le_refl _) _).trans (b1.mono (by simp)); obtain ⟨hc1, _hf1⟩ := bcell b1) | (go_at_call 40; refine (i2 _).mono ?_; rintro e w' ⟨rfl, rfl⟩) | (go_at_call 44; refine (isIndex_any _ _ _).mono ?_; rintro e w' ⟨rfl, rfl⟩) | (go_at_call 62; refine (i3 _ (hp.below q1)).mono ?_; rintro e w2 ⟨rfl, b2⟩; have q2 := q1.trans (b2.mono q1.size); obtain ⟨hc2, _hf2⟩ := bcell (b1.trans (b2.mono b1.size))))
    go_ret
    exact ⟨by rw [HB.out]; first | done | rfl, q2⟩
end Go.Proofs.YtgggbapcpjfljaaGreatDoor
