/- Payments as plain data: what impl.PayOk and spec.PayOk compute, loop by loop, and that it is the same. -/
import Derived.Test.YtnjpifaphmeepaaDoorW3
namespace Go.Proofs.YtnjpifaphmeepaaDoor
open Go Go.RowKit

def upd (f : Nat → Int) (i : Nat) (x : Int) : Nat → Int := fun j => if j = i then x else f j
/-- what a block wins, and what it costs -/
def pos (x : Int) : Int := max x 0
def cost (x : Int) : Int := pos (-x)
def hasZ (xs : List Int) (x : Int) : Bool := decide (x ∈ xs)

/-- impl.PayOk: a row's loop from place j on, `left` to pay -/
def rowI (needs : List Int) : Nat → List Int → Int → (Nat → Int) → Option (Nat → Int)
  | _, [], _, G => some G
  | j, x :: l, left, G => if x < 0 ∨ left < x then none else if 0 < x ∧ hasZ needs j = false then none else rowI needs (j + 1) l (left - x) (upd G j (G j + x))
/-- the check of what each gets -/
def getsOk (G : Nat → Int) : Nat → List Blk → Bool
  | _, [] => true
  | j, b :: l => decide (G j ≤ cost b.worth) && getsOk G (j + 1) l
def payI (bs : List Blk) : Nat → List (List Int) → (Nat → Int) → Bool
  | _, [], G => getsOk G 0 bs
  | i, row :: l, G => if row.length = bs.length then (rowI (nth bs i).needs 0 row (pos (nth bs i).worth) G).elim false (fun G' => payI bs (i + 1) l G') else false
def payOkF (bs : List Blk) (pay : List (List Int)) : Bool := pitOk bs && decide (pay.length = bs.length) && payI bs 0 pay (fun _ => 0)

theorem pos_range {x : Int} (h : x ≤ 20) : 0 ≤ pos x ∧ pos x ≤ 20 := by unfold pos; omega
theorem cost_range {x : Int} (h : -20 ≤ x) : 0 ≤ cost x ∧ cost x ≤ 20 := by unfold cost; exact pos_range (by omega)

/-! ### spec.PayOk: the same, its row's loop adding up -/
def rowS (needs : List Int) : Nat → List Int → Int → (Nat → Int) → Option (Int × (Nat → Int))
  | _, [], p, G => some (p, G)
  | j, x :: l, p, G => if (x < 0 ∨ 20 < x) ∨ (0 < x ∧ hasZ needs j = false) then none else rowS needs (j + 1) l (p + x) (upd G j (G j + x))
def payS (bs : List Blk) : Nat → List (List Int) → (Nat → Int) → Bool
  | _, [], G => getsOk G 0 bs
  | i, row :: l, G => if row.length = bs.length then (rowS (nth bs i).needs 0 row 0 G).elim false (fun r => if pos (nth bs i).worth < r.1 then false else payS bs (i + 1) l r.2) else false
def payOkS (bs : List Blk) (pay : List (List Int)) : Bool := pitOk bs && decide (pay.length = bs.length) && payS bs 0 pay (fun _ => 0)

theorem rowS_ge {needs : List Int} {row : List Int} : ∀ {j : Nat} {p : Int} {G : Nat → Int} {r : Int × (Nat → Int)}, rowS needs j row p G = some r → p ≤ r.1 := by
  induction row with
  | nil => intro j p G r h; simp only [rowS, Option.some.injEq] at h; subst h; exact Int.le_refl _
  | cons x l ih =>
    intro j p G r h
    simp only [rowS] at h
    split at h
    · cases h
    · have := ih h; omega
theorem rowI_rowS {needs : List Int} {c : Int} (hc : c ≤ 20) {row : List Int} : ∀ {j : Nat} {p : Int} {G : Nat → Int}, 0 ≤ p → p ≤ c →
    rowI needs j row (c - p) G = (rowS needs j row p G).elim none (fun r => if c < r.1 then none else some r.2) := by
  induction row with
  | nil => intro j p G h0 h1; simp only [rowI, rowS, Option.elim]; rw [if_neg (by omega)]
  | cons x l ih =>
    intro j p G h0 h1
    simp only [rowI, rowS]
    by_cases hx : x < 0
    · rw [if_pos (.inl hx), if_pos (.inl (.inl hx))]; rfl
    by_cases hh : 0 < x ∧ hasZ needs j = false
    · rw [if_pos (c := (x < 0 ∨ 20 < x) ∨ _) (.inr hh)]
      by_cases hx2 : c - p < x
      · rw [if_pos (.inr hx2)]; rfl
      · rw [if_neg (by omega), if_pos hh]; rfl
    by_cases hx2 : c - p < x
    · rw [if_pos (.inr hx2)]
      by_cases hx3 : 20 < x
      · rw [if_pos (.inl (.inr hx3))]; rfl
      · rw [if_neg (by rintro ((h | h) | h) <;> first | omega | exact hh h)]
        cases hq : rowS needs (j + 1) l (p + x) (upd G j (G j + x)) with
        | none => rfl
        | some r => have := rowS_ge hq; simp only [Option.elim]; rw [if_pos (by omega)]
    · rw [if_neg (by omega), if_neg hh, if_neg (by rintro ((h | h) | h) <;> first | omega | exact hh h)]
      rw [show c - p - x = c - (p + x) by omega]
      exact ih (by omega) (by omega)
theorem payI_payS {bs : List Blk} (hp : pitOk bs = true) {pay : List (List Int)} : ∀ {i : Nat} {G : Nat → Int}, i + pay.length = bs.length → payI bs i pay G = payS bs i pay G := by
  induction pay with
  | nil => intro i G _; rfl
  | cons row l ih =>
    intro i G hi
    simp only [payI, payS]
    split
    · have hw := pos_range (pitOk_worth hp (k := i) (by simp at hi; omega)).2
      have e := rowI_rowS (needs := (nth bs i).needs) hw.2 (row := row) (j := 0) (p := 0) (G := G) (Int.le_refl _) hw.1
      rw [Int.sub_zero] at e
      rw [e]
      cases rowS (nth bs i).needs 0 row 0 G with
      | none => rfl
      | some r =>
        simp only [Option.elim_some]
        by_cases hc : pos (nth bs i).worth < r.1
        · rw [if_pos hc, if_pos hc]; rfl
        · rw [if_neg hc, if_neg hc]; exact ih (by simp at hi; omega)
    · rfl
theorem payOkS_eq (bs : List Blk) (pay : List (List Int)) : payOkS bs pay = payOkF bs pay := by
  simp only [payOkS, payOkF]
  cases hp : pitOk bs
  · rfl
  by_cases hl : pay.length = bs.length
  · simp only [hl, decide_true, Bool.true_and]
    exact (payI_payS hp (by omega)).symm
  · simp [hl]
end Go.Proofs.YtnjpifaphmeepaaDoor
