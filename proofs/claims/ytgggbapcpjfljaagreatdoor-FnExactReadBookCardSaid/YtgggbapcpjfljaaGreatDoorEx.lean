/- Tools for the walks of exact laws: what is kept in a region that draws its order and holds calls that make memory. No program. -/
import Derived.Test.YtgggbapcpjfljaaGreatDoorKrow
namespace Go.Proofs.YtgggbapcpjfljaaGreatDoor
open Go Go.RowKit

theorem kept {V w' : World} (h : Below V.heap.size V w') : Below V.heap.size V w' ∧ ∀ b o, b < V.heap.size → w'.cell? ⟨b, o, none⟩ = V.cell? ⟨b, o, none⟩ := ⟨h, fun b o hl => h.cell (p := ⟨b, o, none⟩) hl⟩
theorem keptB {B : Nat} {V w' : World} (h : Below B V w') : Below B V w' ∧ ∀ b o, b < B → w'.cell? ⟨b, o, none⟩ = V.cell? ⟨b, o, none⟩ := ⟨h, fun b o hl => h.cell (p := ⟨b, o, none⟩) hl⟩
theorem kept_nextB {B : Nat} {V W W' : World} (hB : B ≤ V.heap.size) (h : Below B V W) (c : Below W.heap.size W W') : Below B V W' := h.trans (c.mono (Nat.le_trans hB h.size))
theorem kept_next {V W W' : World} (h : Below V.heap.size V W) (c : Below W.heap.size W W') : Below V.heap.size V W' := h.trans (c.mono h.size)
/-- rules by which a cell of an old block is read in the world of before; sizes too -/
theorem below_rules {W w' : World} (c : Below W.heap.size W w') : (∀ b o, b < W.heap.size → w'.cell? ⟨b, o, none⟩ = W.cell? ⟨b, o, none⟩) ∧ (∀ b o, b < W.heap.size → w'.frozen? ⟨b, o, none⟩ = W.frozen? ⟨b, o, none⟩) ∧
    (∀ b, b < W.heap.size → b < w'.heap.size) ∧ (∀ b, b < W.heap.size → b ≤ w'.heap.size) :=
  ⟨fun b o hl => c.cell (p := ⟨b, o, none⟩) hl, fun b o hl => c.frozen (p := ⟨b, o, none⟩) hl, fun b h => Nat.lt_of_lt_of_le h c.size, fun b h => by have := c.size; omega⟩
theorem al_then {w w' : World} {o : Obj} (c : Below (w.alloc o).heap.size (w.alloc o) w') : Below w.heap.size w w' := ((Below.refl _ _).alloc (Nat.le_refl _) o).trans (c.mono (by simp))
theorem KOwn.kr {α : Type} [Inhabited α] {K : Kind α} {T : TypeId} {w : World} {B : Nat} {a : Option Addr} {n c : Nat} {xs : List α} (h : KOwn K T w B (.slice a n c) xs) : KRd K w a xs := by
  obtain ⟨_, _, e, _, _, hr⟩ := h.rd
  cases e; exact hr
end Go.Proofs.YtgggbapcpjfljaaGreatDoor
