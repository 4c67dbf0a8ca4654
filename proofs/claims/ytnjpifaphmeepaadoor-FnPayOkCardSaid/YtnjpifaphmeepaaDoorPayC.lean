/- Right payments in numbers: impl.PayOk as sums. Plain mathematics. -/
import Derived.Test.YtnjpifaphmeepaaDoorV7
namespace Go.Proofs.YtnjpifaphmeepaaDoor
open Go Go.RowKit

theorem sumN_head (f : Nat → Int) (n : Nat) : sumN f (n + 1) = f 0 + sumN (fun i => f (i + 1)) n := by
  induction n with
  | zero => simp [sumN]
  | succ n ih => rw [show sumN f (n + 1 + 1) = sumN f (n + 1) + f (n + 1) from rfl, ih, show sumN (fun i => f (i + 1)) (n + 1) = sumN (fun i => f (i + 1)) n + f (n + 1) from rfl]; omega
theorem sumRow_sum (row : List Int) : ∀ s : Int, sumRow s row = s + sumN (nth row) row.length := by
  induction row with
  | nil => intro s; simp [sumRow, sumN]
  | cons x l ih =>
    intro s
    show sumRow (s + x) l = _
    rw [ih, List.length_cons, sumN_head]
    show s + x + sumN (nth l) l.length = s + (x + sumN (nth l) l.length)
    omega
theorem sumTab_sum (pay : List (List Int)) : ∀ s : Int, sumTab s pay = s + sumN (fun k => sumN (nth (nth pay k)) (nth pay k).length) pay.length := by
  induction pay with
  | nil => intro s; simp [sumTab, sumN]
  | cons r l ih =>
    intro s
    show sumTab (sumRow s r) l = _
    rw [ih, sumRow_sum, List.length_cons, sumN_head]
    show s + sumN (nth r) r.length + sumN (fun k => sumN (nth (nth l k)) (nth l k).length) l.length = s + (sumN (nth r) r.length + sumN (fun k => sumN (nth (nth l k)) (nth l k).length) l.length)
    omega
def RowC (needs : List Int) (j : Nat) (row : List Int) (left : Int) : Prop :=
  (∀ t, t < row.length → 0 ≤ nth row t ∧ (0 < nth row t → hasZ needs ((j + t : Nat) : Int) = true)) ∧ sumN (nth row) row.length ≤ left
theorem nth_cons_succ {α : Type} [Inhabited α] (x : α) (l : List α) (t : Nat) : nth (x :: l) (t + 1) = nth l t := rfl
theorem rowI_iff {needs : List Int} (row : List Int) : ∀ (j : Nat) (left : Int) (G : Nat → Int), 0 ≤ left → ((∃ G', rowI needs j row left G = some G') ↔ RowC needs j row left) := by
  induction row with
  | nil => intro j left G h0; simp [rowI, RowC, sumN, h0]
  | cons x l ih =>
    intro j left G h0
    simp only [rowI]
    have hs : sumN (nth (x :: l)) (x :: l).length = x + sumN (nth l) l.length := by rw [List.length_cons, sumN_head]; rfl
    have hnn : (∀ t, t < l.length → 0 ≤ nth l t) → 0 ≤ sumN (nth l) l.length := fun h => sumN_nonneg fun t ht => h t ht
    by_cases h1 : x < 0 ∨ left < x
    · rw [if_pos h1]
      refine ⟨fun ⟨_, h⟩ => (by cases h), fun ⟨h2, h3⟩ => ?_⟩
      have h4 := (h2 0 (by simp)).1
      have h5 := hnn fun t ht => (h2 (t + 1) (by simpa using ht)).1
      change 0 ≤ x at h4
      rw [hs] at h3
      omega
    · rw [if_neg h1]
      by_cases h2 : 0 < x ∧ hasZ needs j = false
      · rw [if_pos h2]
        refine ⟨fun ⟨_, h⟩ => (by cases h), fun ⟨h3, _⟩ => ?_⟩
        have h4 := (h3 0 (by simp)).2 h2.1
        rw [Nat.add_zero, h2.2] at h4
        cases h4
      · rw [if_neg h2, ih (j + 1) (left - x) _ (by omega)]
        constructor
        · rintro ⟨h3, h4⟩
          refine ⟨fun t ht => ?_, by rw [hs]; omega⟩
          match t with
          | 0 =>
            refine ⟨by change 0 ≤ x; omega, fun h5 => ?_⟩
            change 0 < x at h5
            rw [Nat.add_zero]
            cases h6 : hasZ needs (j : Int)
            · exact absurd ⟨h5, h6⟩ h2
            · rfl
          | t + 1 =>
            have := h3 t (by simpa using ht)
            rw [nth_cons_succ, show j + (t + 1) = j + 1 + t by omega]
            exact this
        · rintro ⟨h3, h4⟩
          refine ⟨fun t ht => ?_, by rw [hs] at h4; omega⟩
          have := h3 (t + 1) (by simpa using ht)
          rw [nth_cons_succ, show j + (t + 1) = j + 1 + t by omega] at this
          exact this
theorem rowI_val {needs : List Int} (row : List Int) : ∀ (j : Nat) (left : Int) (G G' : Nat → Int), rowI needs j row left G = some G' → ∀ q, G' q = G q + if j ≤ q ∧ q < j + row.length then nth row (q - j) else 0 := by
  induction row with
  | nil => intro j left G G' h q; simp only [rowI, Option.some.injEq] at h; subst h; rw [if_neg (by simp)]; omega
  | cons x l ih =>
    intro j left G G' h q
    simp only [rowI] at h
    split at h
    · cases h
    split at h
    · cases h
    rw [ih _ _ _ _ h q]
    by_cases e : q = j
    · subst e
      rw [if_neg (by omega), if_pos (by simp), Nat.sub_self]
      simp [upd, nth]
    · have e2 : upd G j (G j + x) q = G q := by simp [upd, e]
      rw [e2]
      by_cases h1 : j + 1 ≤ q ∧ q < j + 1 + l.length
      · rw [if_pos h1, if_pos (by simp; omega)]
        obtain ⟨t, rfl⟩ : ∃ t, q = j + 1 + t := ⟨q - (j + 1), by omega⟩
        rw [show j + 1 + t - (j + 1) = t by omega, show j + 1 + t - j = t + 1 by omega]; rfl
      · rw [if_neg h1, if_neg (by simp; omega)]
theorem getsOk_iff (l : List Blk) : ∀ (j : Nat) (G : Nat → Int), getsOk G j l = true ↔ ∀ t, t < l.length → G (j + t) ≤ cost (nth l t).worth := by
  induction l with
  | nil => intro j G; simp [getsOk]
  | cons b l ih =>
    intro j G
    simp only [getsOk, Bool.and_eq_true, decide_eq_true_eq, ih]
    constructor
    · rintro ⟨h1, h2⟩ t ht
      match t with
      | 0 => exact h1
      | t + 1 => rw [show j + (t + 1) = j + 1 + t by omega]; exact h2 t (by simpa using ht)
    · intro h
      refine ⟨h 0 (by simp), fun t ht => ?_⟩
      have := h (t + 1) (by simpa using ht)
      rwa [show j + (t + 1) = j + 1 + t by omega] at this
theorem payI_iff {bs : List Blk} (pay : List (List Int)) : ∀ (i : Nat) (G : Nat → Int), (payI bs i pay G = true ↔ (∀ k, k < pay.length → (nth pay k).length = bs.length ∧ RowC (nth bs (i + k)).needs 0 (nth pay k) (pos (nth bs (i + k)).worth)) ∧
    ∀ t, t < bs.length → G t + sumN (fun k => nth (nth pay k) t) pay.length ≤ cost (nth bs t).worth) := by
  induction pay with
  | nil => intro i G; simp [payI, getsOk_iff, sumN]
  | cons row l ih =>
    intro i G
    simp only [payI]
    have hp0 : 0 ≤ pos (nth bs i).worth := by unfold pos; omega
    by_cases hl : row.length = bs.length
    · rw [if_pos hl]
      cases hq : rowI (nth bs i).needs 0 row (pos (nth bs i).worth) G with
      | none =>
        refine ⟨fun h => (by simp at h), fun ⟨h1, _⟩ => ?_⟩
        have h2 := (h1 0 (by simp)).2
        rw [Nat.add_zero] at h2
        obtain ⟨G', h3⟩ := (rowI_iff row 0 _ G hp0).2 h2
        rw [hq] at h3; cases h3
      | some G' =>
        have hv := rowI_val row _ _ _ _ hq
        have hr := (rowI_iff row 0 _ G hp0).1 ⟨G', hq⟩
        rw [Option.elim_some, ih]
        have key : ∀ t, t < bs.length → G' t + sumN (fun k => nth (nth l k) t) l.length = G t + sumN (fun k => nth (nth (row :: l) k) t) (row :: l).length := fun t ht => by
          rw [hv t, if_pos ⟨Nat.zero_le _, by omega⟩, Nat.sub_zero, List.length_cons, sumN_head]
          show G t + nth row t + sumN (fun k => nth (nth l k) t) l.length = G t + (nth row t + sumN (fun k => nth (nth l k) t) l.length)
          omega
        constructor
        · rintro ⟨h1, h2⟩
          refine ⟨fun k hk => ?_, fun t ht => by rw [← key t ht]; exact h2 t ht⟩
          match k with
          | 0 => exact ⟨hl, hr⟩
          | k + 1 => rw [show i + (k + 1) = i + 1 + k by omega]; exact h1 k (by simpa using hk)
        · rintro ⟨h1, h2⟩
          refine ⟨fun k hk => ?_, fun t ht => by rw [key t ht]; exact h2 t ht⟩
          have := h1 (k + 1) (by simpa using hk)
          rwa [show i + (k + 1) = i + 1 + k by omega] at this
    · rw [if_neg hl]
      refine ⟨fun h => (by cases h), fun ⟨h1, _⟩ => absurd (h1 0 (by simp)).1 hl⟩
/-- right payments, in numbers -/
structure PayC (bs : List Blk) (pay : List (List Int)) : Prop where
  len : pay.length = bs.length
  row : ∀ k, k < bs.length → (nth pay k).length = bs.length
  num : ∀ k j, k < bs.length → j < bs.length → 0 ≤ Mof pay k j ∧ (0 < Mof pay k j → hasZ (nth bs k).needs j = true)
  out : ∀ k, k < bs.length → sumN (Mof pay k) bs.length ≤ pos (nth bs k).worth
  get : ∀ j, j < bs.length → sumN (fun k => Mof pay k j) bs.length ≤ cost (nth bs j).worth
theorem payOk_iff {bs : List Blk} (hp : pitOk bs = true) (pay : List (List Int)) : payOkF bs pay = true ↔ PayC bs pay := by
  simp only [payOkF, hp, Bool.true_and, Bool.and_eq_true, decide_eq_true_eq, payI_iff]
  constructor
  · rintro ⟨hl, h1, h2⟩
    rw [hl] at h1 h2
    refine ⟨hl, fun k hk => (h1 k hk).1, fun k j hk hj => ?_, fun k hk => ?_, fun j hj => ?_⟩
    · have := (h1 k hk).2.1 j (by rw [(h1 k hk).1]; exact hj)
      rwa [Nat.zero_add, Nat.zero_add] at this
    · have := (h1 k hk).2.2
      rwa [Nat.zero_add, (h1 k hk).1] at this
    · have := h2 j hj
      rwa [Int.zero_add] at this
  · intro h
    refine ⟨h.len, fun k hk => ?_, fun t ht => ?_⟩
    · rw [h.len] at hk
      refine ⟨h.row k hk, fun t ht => ?_, ?_⟩
      · rw [Nat.zero_add, Nat.zero_add]; exact h.num k t hk (by rw [h.row k hk] at ht; exact ht)
      · rw [Nat.zero_add, h.row k hk]; exact h.out k hk
    · rw [h.len, Int.zero_add]; exact h.get t ht
theorem PayC.total {bs : List Blk} {pay : List (List Int)} (h : PayC bs pay) : sumTab 0 pay = payTotal bs (Mof pay) := by
  rw [sumTab_sum, Int.zero_add, h.len]
  exact sumN_congr fun k hk => by rw [h.row k hk]
end Go.Proofs.YtnjpifaphmeepaaDoor
