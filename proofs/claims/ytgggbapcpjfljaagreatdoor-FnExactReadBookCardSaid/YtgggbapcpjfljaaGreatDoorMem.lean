/- Memory in walks: how lists of Go data lie in the heap, read-only ('Rd') and owned ('World.ownsRow'), and how both are kept. No program. -/
import Derived.WalkKit
import Derived.WalkSpells
import Derived.BigQuiet
import Derived.Deep.QuietTactic
import Derived.Deep.OwnRows
import Derived.Lib.Hide
import Derived.WalkSmall
import Derived.Lib.MinMax
namespace Go.Proofs.YtgggbapcpjfljaaGreatDoor
open Go Go.RowKit

/-! ### lists by index -/
def nth {α : Type} [Inhabited α] (xs : List α) (k : Nat) : α := xs.getD k default

theorem drop_end {α : Type} {xs : List α} {k : Nat} (h : xs.length ≤ k) : xs.drop k = [] := List.drop_eq_nil_of_le h

section
variable {α β : Type} [Inhabited α] [Inhabited β]

theorem nth_eq {xs : List α} {k : Nat} (h : k < xs.length) : nth xs k = xs[k] := by simp [nth, h]
theorem getElem?_nth {xs : List α} {k : Nat} (h : k < xs.length) : xs[k]? = some (nth xs k) := by simp [nth, h]
theorem drop_nth {xs : List α} {k : Nat} (h : k < xs.length) : xs.drop k = nth xs k :: xs.drop (k + 1) := by
  rw [nth_eq h]; exact List.drop_eq_getElem_cons h
theorem take_nth {xs : List α} {k : Nat} (h : k < xs.length) : xs.take (k + 1) = xs.take k ++ [nth xs k] := by
  rw [nth_eq h, List.take_succ_eq_append_getElem h]
theorem nth_mem {xs : List α} {k : Nat} (h : k < xs.length) : nth xs k ∈ xs := by rw [nth_eq h]; exact List.getElem_mem h
theorem nth_append_left {xs ys : List α} {k : Nat} (h : k < xs.length) : nth (xs ++ ys) k = nth xs k := by
  simp [nth, List.getElem?_append_left h]
theorem nth_append_right {xs ys : List α} {k : Nat} (h : xs.length ≤ k) : nth (xs ++ ys) k = nth ys (k - xs.length) := by
  simp [nth, List.getElem?_append_right h]
theorem nth_append_len (xs : List α) (x : α) (ys : List α) : nth (xs ++ x :: ys) xs.length = x := by simp [nth]
theorem nth_map {f : α → β} {xs : List α} {k : Nat} (h : k < xs.length) : nth (xs.map f) k = f (nth xs k) := by simp [nth, h]
theorem nth_set {xs : List α} {i k : Nat} {x : α} (h : k < xs.length) : nth (xs.set i x) k = if i = k then x else nth xs k := by
  simp only [nth, List.getD_eq_getElem?_getD, List.getElem?_set]
  split
  · rename_i e; subst e; simp [h]
  · rfl
theorem nth_take {xs : List α} {n k : Nat} (h : k < n) : nth (xs.take n) k = nth xs k := by
  simp [nth, h]
theorem nth_drop {xs : List α} {n k : Nat} : nth (xs.drop n) k = nth xs (n + k) := by
  simp [nth]
theorem ext_nth {xs ys : List α} (hl : xs.length = ys.length) (h : ∀ k, k < xs.length → nth xs k = nth ys k) : xs = ys := by
  apply List.ext_getElem hl
  intro k h1 h2
  have := h k h1
  rwa [nth_eq h1, nth_eq h2] at this
end

/-! ### how an element lies -/
structure Lay (α : Type) where
  sz : Nat
  At : World → Nat → Nat → α → Prop
  keep : ∀ {w w' : World} {b o : Nat} {x : α}, (∀ b' o', b' < w.heap.size → w'.cell? ⟨b', o', none⟩ = w.cell? ⟨b', o', none⟩) → w.heap.size ≤ w'.heap.size → At w b o x → At w' b o x

theorem cell_lt {w : World} {b o : Nat} {v : Value} (h : w.cell? ⟨b, o, none⟩ = some v) : b < w.heap.size := World.block_lt_of_cell? w ⟨b, o, none⟩ h

/-- a list of such elements, read from `a` on -/
def Rd {α : Type} [Inhabited α] (L : Lay α) (w : World) (a : Option Addr) (xs : List α) : Prop :=
  xs = [] ∨ ∃ b off, a = some ⟨b, off, none⟩ ∧ b < w.heap.size ∧ ∀ k, k < xs.length → L.At w b (off + k * L.sz) (nth xs k)

section
variable {α : Type} [Inhabited α] {L : Lay α} {w w' : World} {a : Option Addr} {xs : List α}

theorem Rd.nil : Rd L w a [] := .inl rfl

theorem Rd.at (h : Rd L w a xs) {k : Nat} (hk : k < xs.length) :
    ∃ b off, a = some ⟨b, off, none⟩ ∧ b < w.heap.size ∧ ∀ j, j < xs.length → L.At w b (off + j * L.sz) (nth xs j) := by
  rcases h with rfl | h
  · simp at hk
  · exact h

theorem Rd.move (h : Rd L w a xs) (hc : ∀ b' o', b' < w.heap.size → w'.cell? ⟨b', o', none⟩ = w.cell? ⟨b', o', none⟩) (hs : w.heap.size ≤ w'.heap.size) : Rd L w' a xs := by
  rcases h with rfl | ⟨b, off, e, hb, h⟩
  · exact .inl rfl
  · exact .inr ⟨b, off, e, by omega, fun k hk => L.keep hc hs (h k hk)⟩

theorem Rd.below (h : Rd L w a xs) (hb : Below w.heap.size w w') : Rd L w' a xs :=
  h.move (fun b' o' hl => hb.cell (p := ⟨b', o', none⟩) hl) hb.size
end

theorem alloc_cell (w : World) (o : Obj) (b' o' : Nat) (h : b' < w.heap.size) : (w.alloc o).cell? ⟨b', o', none⟩ = w.cell? ⟨b', o', none⟩ :=
  World.cell?_of_block (w := w) (Below.heap_alloc w o b' h)

section
variable {α : Type} [Inhabited α] {L : Lay α} {w w' : World} {a : Option Addr} {xs : List α}
theorem Rd.alloc (h : Rd L w a xs) (o : Obj) : Rd L (w.alloc o) a xs := h.below ((Below.refl _ _).alloc (Nat.le_refl _) o)
theorem Rd.drew (h : Rd L w a xs) : Rd L w.drew a xs := h.below ((Below.refl _ _).drew)
end

theorem Rd.drewN {α : Type} [Inhabited α] {L : Lay α} {w : World} {a : Option Addr} {xs : List α} (h : Rd L w a xs) (n : Nat) : Rd L (w.drewN n) a xs := h.below (below_drewN (Below.refl _ _) n)

/-! ### calls inside a region that draws its order -/
theorem quiet_s {P : Program} {f : FuncId} {args : Array Value} {w : World} {n : Nat} {v : Value}
    (h : Calls P f args (w.drewN n) fun e w' => e = .returned v ∧ w.drewN n = w') : Calls P f args (w.drewN n) fun e w'' => e = .returned v ∧ ∃ m, w'' = w.drewN m :=
  h.mono fun _ _ ⟨h1, h2⟩ => ⟨h1, n, h2.symm⟩
theorem quiet_q {P : Program} {f : FuncId} {args : Array Value} {w : World} {q n : Nat} {v : Value}
    (h : Calls P f args (w.drewN (q + n)) fun e w' => e = .returned v ∧ w.drewN (q + n) = w') : Calls P f args (w.drewN (q + n)) fun e w'' => e = .returned v ∧ ∃ m, w'' = w.drewN (q + m) :=
  h.mono fun _ _ ⟨h1, h2⟩ => ⟨h1, n, h2.symm⟩
theorem quiet_qd {P : Program} {f : FuncId} {args : Array Value} {w : World} {q n : Nat} {v : Value}
    (h : Calls P f args (w.drewN (q + n)) fun e w' => e = .returned v ∧ ∃ m, w' = (w.drewN (q + n)).drewN m) : Calls P f args (w.drewN (q + n)) fun e w'' => e = .returned v ∧ ∃ m, w'' = w.drewN (q + m) :=
  h.mono fun _ _ ⟨h1, m, h2⟩ => ⟨h1, n + m, by rw [h2, World.drewN_drewN, Nat.add_assoc]⟩

theorem one_cell (w : World) (v : Value) (t b : Nat) (hb : b = w.heap.size) : (w.alloc (.cells #[v] t)).cell? ⟨b, 0, none⟩ = some v := by
  subst hb
  have e : (w.alloc (.cells #[v] t)).heap[w.heap.size]? = some (.cells #[v] t (0, 0)) := Deep.blk_alloc_new _ _
  unfold World.cell?
  simp only [e]
  rfl
theorem scan_step {k : Nat} {p q : Nat → Prop} (h : ∀ x, x < k → p x → q x) (hk : p k → q k) : ∀ x, x < k + 1 → p x → q x := by
  intro x hx hp
  by_cases e : x = k
  · subst e; exact hk hp
  · exact h x (by omega) hp

/-! ### numbers -/
def intL : Lay Int := ⟨1, fun w b o x => w.cell? ⟨b, o, none⟩ = some (.int .i64 x), fun hc _ h => (hc _ _ (cell_lt h)).trans h⟩
abbrev Ints := Rd intL

theorem Ints.at {w : World} {a : Option Addr} {xs : List Int} (h : Ints w a xs) {k : Nat} (hk : k < xs.length) :
    ∃ b off, a = some ⟨b, off, none⟩ ∧ b < w.heap.size ∧ ∀ j, j < xs.length → w.cell? ⟨b, off + j, none⟩ = some (.int .i64 (nth xs j)) := by
  obtain ⟨b, off, e, hb, h⟩ := Rd.at h hk
  exact ⟨b, off, e, hb, fun j hj => by have := h j hj; simpa [intL] using this⟩

theorem Ints.mk {w : World} {b off : Nat} {xs : List Int} (hb : b < w.heap.size) (h : ∀ j, j < xs.length → w.cell? ⟨b, off + j, none⟩ = some (.int .i64 (nth xs j))) :
    Ints w (some ⟨b, off, none⟩) xs := .inr ⟨b, off, rfl, hb, fun k hk => by have := h k hk; simpa [intL] using this⟩

/-! ### what the call owns -/
theorem ownsRow_mono {w : World} {B B' : Nat} {E sz : Nat} {v : Value} {n : Nat} {cs : List Value} (h : w.ownsRow B E sz v n cs) (hB : B' ≤ B) : w.ownsRow B' E sz v n cs := by
  refine ⟨h.1, ?_⟩
  rcases h.2 with h | ⟨g, cap, cur, e, hg, r⟩
  · exact .inl h
  · exact .inr ⟨g, cap, cur, e, Nat.le_trans hB hg, r⟩

/-- the value of an owned row, and its cells -/
theorem ownsRow_form {w : World} {B E sz : Nat} {v : Value} {n : Nat} {cs : List Value} (h : w.ownsRow B E sz v n cs) :
    ∃ a c, v = .slice a n c ∧ n ≤ c ∧ (0 < n → ∃ g, a = some ⟨g, 0, none⟩ ∧ B ≤ g ∧ g < w.heap.size ∧ ∀ j u, cs[j]? = some u → w.cell? ⟨g, j, none⟩ = some u) := by
  rcases h.2 with ⟨e, hn⟩ | ⟨g, cap, cur, e, hB, hg, hn, hc, hs, ht⟩
  · subst hn; exact ⟨none, 0, e, Nat.le_refl _, fun h => absurd h (by omega)⟩
  · refine ⟨some ⟨g, 0, none⟩, cap, e, hn, fun _ => ⟨g, rfl, hB, (Array.getElem?_eq_some_iff.1 hg).1, fun j u hu => ?_⟩⟩
    have := World.ownsRow.cells h (g := g) (by rw [e]; rfl) j u hu
    rwa [Addr.add_lit, Nat.zero_add] at this

theorem ints_of_owns {w : World} {B E : Nat} {v : Value} {xs : List Int} (h : w.ownsRow B E 1 v xs.length (xs.map (Value.int .i64))) :
    ∃ a c, v = .slice a xs.length c ∧ xs.length ≤ c ∧ Ints w a xs := by
  obtain ⟨a, c, e, hc, h⟩ := ownsRow_form h
  refine ⟨a, c, e, hc, ?_⟩
  cases xs with
  | nil => exact .inl rfl
  | cons x xs =>
    obtain ⟨g, rfl, _, hg, h⟩ := h (by simp)
    refine Ints.mk hg fun j hj => ?_
    rw [Nat.zero_add]
    refine h j _ ?_
    rw [List.getElem?_map, getElem?_nth hj]
    rfl

/-- a new world that only has grown keeps what is owned -/
theorem ownsRow_below {w w' : World} {B E sz : Nat} {v : Value} {n : Nat} {cs : List Value} (h : w.ownsRow B E sz v n cs) (hb : Below w.heap.size w w') : w'.ownsRow B E sz v n cs := by
  refine ⟨h.1, ?_⟩
  rcases h.2 with hn | ⟨g, cap, cur, e, hB, hg, r⟩
  · exact .inl hn
  · exact .inr ⟨g, cap, cur, e, hB, (hb.block g (Array.getElem?_eq_some_iff.1 hg).1).trans hg, r⟩

theorem grown_below {w w' : World} {row : Option Nat} {B : Nat} (hg : w.grownBy w' row) (hB : B ≤ w.heap.size) (hr : ∀ k, row = some k → B ≤ k) : Below B w w' := (Below.refl B w).grown hg hB hr

/-- all old cells and marks read as before -/
theorem bcell {W w1 : World} (hb : Below W.heap.size W w1) : (∀ b o, b < W.heap.size → w1.cell? ⟨b, o, none⟩ = W.cell? ⟨b, o, none⟩) ∧ (∀ b o, b < W.heap.size → w1.frozen? ⟨b, o, none⟩ = W.frozen? ⟨b, o, none⟩) :=
  ⟨fun b o h => hb.cell (p := ⟨b, o, none⟩) h, fun b o h => hb.frozen (p := ⟨b, o, none⟩) h⟩
end Go.Proofs.YtgggbapcpjfljaaGreatDoor
