/- Walks: impl.DeedDo whole. -/
import Derived.Test.YtgggbapcpjfljaaGreatDoorG7
import Derived.Test.YtgggbapcpjfljaaGreatDoorG8
namespace Go.Proofs.YtgggbapcpjfljaaGreatDoor
open Go Go.RowKit Go.Sort

theorem ddTry_unfit {s : Sv} {d : Dd} (h : ddFits d = false) : ddTry s d = none := by
  obtain ⟨kd, ix, g⟩ := d
  unfold ddFits at h
  unfold ddTry
  simp only at h ⊢
  by_cases h0 : kd = 0
  · simp [h0] at h
  by_cases h3 : kd = 3
  · simp [h3] at h
  by_cases h1 : kd = 1
  · subst h1; simp at h; simp [h]
  by_cases h2 : kd = 2
  · subst h2; simp at h; simp [h]
  by_cases h4 : kd = 4
  · subst h4; simp at h
    rw [if_neg (by decide), if_neg (by decide), if_neg (by decide), if_neg (by decide), if_pos rfl, if_neg (fun ⟨e1, e2⟩ => h e2 e1)]
  by_cases h5 : kd = 5
  · subst h5; simp at h
    rw [if_neg (by decide), if_neg (by decide), if_neg (by decide), if_neg (by decide), if_neg (by decide), if_pos rfl, if_neg (fun ⟨e1, e2⟩ => h e2 e1)]
  · simp [h0, h1, h2, h3, h4, h5]
theorem isIdx_nat {x n : Int} (h : isIdx x n = true) : ∃ i : Nat, x = (i : Int) ∧ (i : Int) < n := by
  simp only [isIdx, Bool.and_eq_true, decide_eq_true_eq] at h
  exact ⟨x.toNat, by omega, by omega⟩
theorem isIdx_no {x n : Int} (h : isIdx x n = false) : ¬ (0 ≤ x ∧ x < n) := by
  simp only [isIdx, Bool.and_eq_false_iff, decide_eq_false_iff_not] at h
  omega

theorem deedDo_any (a : Option Addr) (c : Nat) (st : Int) (l : List Lg) (d : Dd) (w : World) (hl : l.length ≤ 1048576) (hs : Legs w a l) :
    Calls Tryz.prog 18 #[.agg #[.int .i64 st, .slice a l.length c], d.val] w (SvOut (ddDo ⟨st, l⟩ d) w) := by
  cases hv : svOk ⟨st, l⟩
  · exact deedDo_bad a c st l d w hl hs hv
  obtain ⟨v1, v2, v3, v4⟩ := svOk_iff.1 hv
  simp only at v1 v2 v3 v4
  cases hfit : ddFits d
  · obtain ⟨kd, ix, g⟩ := d
    exact deedDo_unfit a c st l kd ix g w hl hs hv hfit (ddTry_unfit hfit)
  obtain ⟨kd, ix, g⟩ := d
  have hkd : kd = 0 ∨ kd = 1 ∨ kd = 2 ∨ kd = 3 ∨ kd = 4 ∨ kd = 5 := by
    unfold ddFits at hfit
    simp only at hfit
    split at hfit
    · omega
    · split at hfit
      · omega
      · split at hfit
        · omega
        · cases hfit
  have hg1 : kd = 1 ∨ kd = 2 → g = noLeg := fun h => by
    unfold ddFits at hfit
    simp only at hfit
    rw [if_neg (by omega), if_pos h] at hfit
    exact of_decide_eq_true hfit
  have hg4 : kd = 4 ∨ kd = 5 → g = noLeg ∧ ix = 0 := fun h => by
    unfold ddFits at hfit
    simp only at hfit
    rw [if_neg (by omega), if_neg (by omega), if_pos h] at hfit
    simpa using hfit
  rcases hkd with rfl | rfl | rfl | rfl | rfl | rfl
  · cases hidx : isIdx ix ((l.length : Int) + 1)
    · refine deedDo_off0 a c st l ix g w hl hs hv hfit hidx ?_
      have := isIdx_no hidx
      unfold ddTry
      simp only [if_true]
      rw [if_neg (by omega)]
    · obtain ⟨i, rfl, hi⟩ := isIdx_nat hidx
      refine deedDo_list0 a c st l _ g w hl hs hv i rfl (by omega) v3 hfit hidx ?_
      unfold ddTry
      simp only [if_true, Int.toNat_natCast]
      rw [if_pos (by omega)]
  · cases hidx : isIdx ix (l.length : Int)
    · refine deedDo_off1 a c st l ix g w hl hs hv hfit hidx ?_
      have := isIdx_no hidx
      unfold ddTry
      simp only [Int.reduceEq, if_true, if_false]
      rw [if_neg (fun h => this ⟨h.1, h.2.1⟩)]
    · obtain ⟨i, rfl, hi⟩ := isIdx_nat hidx
      refine deedDo_list1 a c st l _ g w hl hs hv i rfl (by omega) v3 hfit hidx ?_
      unfold ddTry
      simp only [Int.reduceEq, if_true, if_false, Int.toNat_natCast]
      rw [if_pos ⟨by omega, by omega, hg1 (by omega)⟩]
  · cases hidx : isIdx ix (l.length : Int)
    · refine deedDo_off2 a c st l ix g w hl hs hv hfit hidx ?_
      have := isIdx_no hidx
      unfold ddTry
      simp only [Int.reduceEq, if_true, if_false]
      rw [if_neg (fun h => this ⟨h.1, h.2.1⟩)]
    · obtain ⟨i, rfl, hi⟩ := isIdx_nat hidx
      refine deedDo_turn a c st l _ g w hl hs hv i rfl (by omega) v3 (legOk_six v2 (legsOk_nth v4 (by omega))) hfit hidx ?_
      unfold ddTry
      simp only [Int.reduceEq, if_true, if_false, Int.toNat_natCast]
      rw [if_pos ⟨by omega, by omega, hg1 (by omega)⟩]
      rfl
  · cases hidx : isIdx ix (l.length : Int)
    · refine deedDo_off3 a c st l ix g w hl hs hv hfit hidx ?_
      have := isIdx_no hidx
      unfold ddTry
      simp only [Int.reduceEq, if_true, if_false]
      rw [if_neg (fun h => this ⟨h.1, h.2.1⟩)]
    · obtain ⟨i, rfl, hi⟩ := isIdx_nat hidx
      by_cases he : g = nth l i
      · refine deedDo_same a c st l _ g w hl hs hv i rfl (by omega) v3 hfit hidx he ?_
        unfold ddTry
        simp only [Int.reduceEq, if_true, if_false, Int.toNat_natCast]
        rw [if_neg (fun h => h.2.2 he)]
      · refine deedDo_set a c st l _ g w hl hs hv i rfl (by omega) v3 hfit hidx he ?_
        unfold ddTry
        simp only [Int.reduceEq, if_true, if_false, Int.toNat_natCast]
        rw [if_pos ⟨by omega, by omega, he⟩]
  · refine deedDo_step4 a c st l ix g w hl hs hv hfit ?_ ⟨v1, v2⟩
    unfold ddTry
    simp only [Int.reduceEq, if_true, if_false]
    rw [if_pos ⟨(hg4 (by omega)).2, (hg4 (by omega)).1⟩]
  · refine deedDo_step5 a c st l ix g w hl hs hv hfit ?_ ⟨v1, v2⟩
    unfold ddTry
    simp only [Int.reduceEq, if_true, if_false]
    rw [if_pos ⟨(hg4 (by omega)).2, (hg4 (by omega)).1⟩]
end Go.Proofs.YtgggbapcpjfljaaGreatDoor
