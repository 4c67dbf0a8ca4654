/- Pits as plain data, and how they lie in memory. -/
import Derived.Test.YtnjpifaphmeepaaDoorMem
namespace Go.Proofs.YtnjpifaphmeepaaDoor
open Go Go.RowKit

structure Blk where
  worth : Int
  needs : List Int
deriving DecidableEq
instance : Inhabited Blk := ⟨⟨0, []⟩⟩

def blkL : Lay Blk where
  sz := 2
  At w b o x := w.cell? ⟨b, o, none⟩ = some (.int .i64 x.worth) ∧ x.needs.length ≤ 1048576 ∧ ∃ A C, w.cell? ⟨b, o + 1, none⟩ = some (.slice A x.needs.length C) ∧ x.needs.length ≤ C ∧ C ≤ 9223372036854775807 ∧ Ints w A x.needs
  keep hc hs h := by
    obtain ⟨h1, h2, A, C, h3, h4, h5, h6⟩ := h
    exact ⟨(hc _ _ (cell_lt h1)).trans h1, h2, A, C, (hc _ _ (cell_lt h3)).trans h3, h4, h5, h6.move hc hs⟩
abbrev Pit := Rd blkL

theorem Pit.at {w : World} {a : Option Addr} {xs : List Blk} (h : Pit w a xs) {k : Nat} (hk : k < xs.length) :
    ∃ b off A C, a = some ⟨b, off, none⟩ ∧ b < w.heap.size ∧ w.cell? ⟨b, off + k * 2, none⟩ = some (.int .i64 (nth xs k).worth) ∧
      w.cell? ⟨b, off + k * 2 + 1, none⟩ = some (.slice A (nth xs k).needs.length C) ∧ (nth xs k).needs.length ≤ 1048576 ∧ (nth xs k).needs.length ≤ C ∧ C ≤ 9223372036854775807 ∧ Ints w A (nth xs k).needs := by
  obtain ⟨b, off, e, hb, h⟩ := Rd.at h hk
  obtain ⟨h1, h2, A, C, h3, h4, h5, h6⟩ := h k hk
  exact ⟨b, off, A, C, e, hb, h1, h3, h2, h4, h5, h6⟩

/-- pits as they come in: no bound but the reach -/
def rawBlkL : Lay Blk where
  sz := 2
  At w b o x := w.cell? ⟨b, o, none⟩ = some (.int .i64 x.worth) ∧ ∃ A C, w.cell? ⟨b, o + 1, none⟩ = some (.slice A x.needs.length C) ∧ x.needs.length ≤ C ∧ C ≤ 9223372036854775807 ∧ Ints w A x.needs
  keep hc hs h := by
    obtain ⟨h1, A, C, h3, h4, h5, h6⟩ := h
    exact ⟨(hc _ _ (cell_lt h1)).trans h1, A, C, (hc _ _ (cell_lt h3)).trans h3, h4, h5, h6.move hc hs⟩
abbrev RawPit := Rd rawBlkL
theorem RawPit.at {w : World} {a : Option Addr} {xs : List Blk} (h : RawPit w a xs) {k : Nat} (hk : k < xs.length) :
    ∃ b off A C, a = some ⟨b, off, none⟩ ∧ b < w.heap.size ∧ w.cell? ⟨b, off + k * 2, none⟩ = some (.int .i64 (nth xs k).worth) ∧
      w.cell? ⟨b, off + k * 2 + 1, none⟩ = some (.slice A (nth xs k).needs.length C) ∧ (nth xs k).needs.length ≤ C ∧ C ≤ 9223372036854775807 ∧ Ints w A (nth xs k).needs := by
  obtain ⟨b, off, e, hb, h⟩ := Rd.at h hk
  obtain ⟨h1, A, C, h3, h4, h5, h6⟩ := h k hk
  exact ⟨b, off, A, C, e, hb, h1, h3, h4, h5, h6⟩
theorem RawPit.pit {w : World} {a : Option Addr} {xs : List Blk} (h : RawPit w a xs) (hl : ∀ k, k < xs.length → (nth xs k).needs.length ≤ 1048576) : Pit w a xs := by
  rcases h with e | ⟨b, off, e, hb, h⟩
  · exact .inl e
  · refine .inr ⟨b, off, e, hb, fun k hk => ?_⟩
    obtain ⟨h1, A, C, h3, h4, h5, h6⟩ := h k hk
    exact ⟨h1, hl k hk, A, C, h3, h4, h5, h6⟩

/-! ### tables of numbers -/
instance : Inhabited (List Int) := ⟨[]⟩
def rowL : Lay (List Int) where
  sz := 1
  At w b o x := x.length ≤ 1048576 ∧ ∃ A C, w.cell? ⟨b, o, none⟩ = some (.slice A x.length C) ∧ x.length ≤ C ∧ C ≤ 9223372036854775807 ∧ Ints w A x
  keep hc hs h := by
    obtain ⟨h2, A, C, h3, h4, h5, h6⟩ := h
    exact ⟨h2, A, C, (hc _ _ (cell_lt h3)).trans h3, h4, h5, h6.move hc hs⟩
def rawRowL : Lay (List Int) where
  sz := 1
  At w b o x := ∃ A C, w.cell? ⟨b, o, none⟩ = some (.slice A x.length C) ∧ x.length ≤ C ∧ C ≤ 9223372036854775807 ∧ Ints w A x
  keep hc hs h := by
    obtain ⟨A, C, h3, h4, h5, h6⟩ := h
    exact ⟨A, C, (hc _ _ (cell_lt h3)).trans h3, h4, h5, h6.move hc hs⟩
abbrev Tab := Rd rowL
abbrev RawTab := Rd rawRowL
theorem Tab.at {w : World} {a : Option Addr} {xs : List (List Int)} (h : Tab w a xs) {k : Nat} (hk : k < xs.length) :
    ∃ b off A C, a = some ⟨b, off, none⟩ ∧ b < w.heap.size ∧ w.cell? ⟨b, off + k, none⟩ = some (.slice A (nth xs k).length C) ∧ (nth xs k).length ≤ 1048576 ∧ (nth xs k).length ≤ C ∧ C ≤ 9223372036854775807 ∧ Ints w A (nth xs k) := by
  obtain ⟨b, off, e, hb, h⟩ := Rd.at h hk
  obtain ⟨h2, A, C, h3, h4, h5, h6⟩ := h k hk
  exact ⟨b, off, A, C, e, hb, by simpa [rowL] using h3, h2, h4, h5, h6⟩
theorem RawTab.at {w : World} {a : Option Addr} {xs : List (List Int)} (h : RawTab w a xs) {k : Nat} (hk : k < xs.length) :
    ∃ b off A C, a = some ⟨b, off, none⟩ ∧ b < w.heap.size ∧ w.cell? ⟨b, off + k, none⟩ = some (.slice A (nth xs k).length C) ∧ (nth xs k).length ≤ C ∧ C ≤ 9223372036854775807 ∧ Ints w A (nth xs k) := by
  obtain ⟨b, off, e, hb, h⟩ := Rd.at h hk
  obtain ⟨A, C, h3, h4, h5, h6⟩ := h k hk
  exact ⟨b, off, A, C, e, hb, by simpa [rawRowL] using h3, h4, h5, h6⟩
theorem RawTab.tab {w : World} {a : Option Addr} {xs : List (List Int)} (h : RawTab w a xs) (hl : ∀ k, k < xs.length → (nth xs k).length ≤ 1048576) : Tab w a xs := by
  rcases h with e | ⟨b, off, e, hb, h⟩
  · exact .inl e
  · refine .inr ⟨b, off, e, hb, fun k hk => ?_⟩
    obtain ⟨A, C, h3, h4, h5, h6⟩ := h k hk
    exact ⟨hl k hk, A, C, h3, h4, h5, h6⟩

/-! ### the sizes that the laws allow -/
def szL (n : Nat) (left : Int) : Int := if left - n < 0 then -1 else left - n
def szTabFrom (left : Int) : List (List Int) → Int
  | [] => left
  | x :: l => if szL x.length left < 0 then -1 else szTabFrom (szL x.length left) l
def szTab (xs : List (List Int)) (left : Int) : Int := if left - xs.length < 0 then -1 else szTabFrom (left - xs.length) xs
theorem szTabFrom_le {xs : List (List Int)} : ∀ {left : Int}, 0 ≤ szTabFrom left xs → szTabFrom left xs ≤ left ∧ ∀ k, k < xs.length → ((nth xs k).length : Int) ≤ left := by
  induction xs with
  | nil => intro left h; exact ⟨Int.le_refl _, fun k hk => by simp at hk⟩
  | cons x l ih =>
    intro left h
    simp only [szTabFrom] at h ⊢
    split at h
    · omega
    · rename_i hx
      rw [if_neg hx]
      obtain ⟨h1, h2⟩ := ih h
      have hz : szL x.length left = left - x.length := by
        unfold szL at hx ⊢
        split at hx
        · omega
        · rename_i h'; rw [if_neg h']
      refine ⟨by omega, fun k hk => ?_⟩
      cases k with
      | zero => show (x.length : Int) ≤ left; unfold szL at hx; split at hx <;> omega
      | succ k => have := h2 k (by simpa using hk); show ((nth l k).length : Int) ≤ left; omega
theorem szTab_le {xs : List (List Int)} {left : Int} (h : 0 ≤ szTab xs left) : szTab xs left ≤ left ∧ (xs.length : Int) ≤ left ∧ ∀ k, k < xs.length → ((nth xs k).length : Int) ≤ left := by
  unfold szTab at h ⊢
  split at h
  · omega
  · rename_i hx
    rw [if_neg hx]
    obtain ⟨h1, h2⟩ := szTabFrom_le h
    exact ⟨by omega, by omega, fun k hk => by have := h2 k hk; omega⟩
end Go.Proofs.YtnjpifaphmeepaaDoor
