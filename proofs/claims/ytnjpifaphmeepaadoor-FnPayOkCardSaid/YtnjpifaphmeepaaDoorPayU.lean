/- Memory: a drawn table of payments, whose rows are the call's own and are changed. -/
import Derived.Test.YtnjpifaphmeepaaDoorD2
import Derived.Test.YtnjpifaphmeepaaDoorPayM
namespace Go.Proofs.YtnjpifaphmeepaaDoor
open Go Go.RowKit

/-- a table under way: k rows of n numbers, each in a block of its own -/
structure PayU (w : World) (B : Nat) (v : Value) (gs : Nat → Nat) (k n : Nat) (M : Nat → Nat → Int) : Prop where
  own : w.ownsRow B 26 1 v k ((List.range k).map fun i => Value.slice (some ⟨gs i, 0, none⟩) n n)
  row : ∀ i, i < k → OwnI w (gs i) n (M i)
  apart : ∀ i, i < k → v.ownBlock ≠ some (gs i)
  inj : ∀ i j, i < k → j < k → gs i = gs j → i = j
  ge : ∀ i, i < k → B ≤ gs i
  nn : v ≠ .slice none 0 0
theorem PayU.upto {w w' : World} {B R : Nat} {v : Value} {gs : Nat → Nat} {k n : Nat} {M : Nat → Nat → Int} (h : PayU w B v gs k n M) (hR : R < B) (hu : Upto w.heap.size R w w') : PayU w' B v gs k n M :=
  ⟨ownsRow_upto h.own hu fun b hb => ⟨(h.own.lt b hb).2, by have := (h.own.lt b hb).1; omega⟩, fun i hi => (h.row i hi).of_block (hu.block _ (h.row i hi).lt (by have := h.ge i hi; omega)), h.apart, h.inj, h.ge, h.nn⟩
theorem PayU.below {w w' : World} {B : Nat} {v : Value} {gs : Nat → Nat} {k n : Nat} {M : Nat → Nat → Int} (h : PayU w B v gs k n M) (hb : Below w.heap.size w w') : PayU w' B v gs k n M :=
  ⟨ownsRow_below h.own hb, fun i hi => rowIs_below (h.row i hi) hb, h.apart, h.inj, h.ge, h.nn⟩
theorem PayU.form {w : World} {B : Nat} {v : Value} {gs : Nat → Nat} {k n : Nat} {M : Nat → Nat → Int} (h : PayU w B v gs k n M) : ∃ p c, v = .slice (some ⟨p, 0, none⟩) k c ∧ k ≤ c ∧ B ≤ p ∧ p < w.heap.size := by
  rcases h.own.2 with ⟨e, _⟩ | ⟨g, cap, cur, e, _, _, hn, _⟩
  · exact absurd e h.nn
  · have := h.own.lt g (by rw [e]; rfl)
    exact ⟨g, cap, e, hn, this.1, this.2⟩
theorem PayU.congr {w : World} {B : Nat} {v : Value} {gs : Nat → Nat} {k n : Nat} {M M' : Nat → Nat → Int} (h : PayU w B v gs k n M) (e : ∀ i j, i < k → j < n → M i j = M' i j) : PayU w B v gs k n M' :=
  ⟨h.own, fun i hi => World.rowIs.congr (h.row i hi) fun j hj => by rw [e i j hi hj], h.apart, h.inj, h.ge, h.nn⟩
theorem PayU.set {w : World} {B : Nat} {v : Value} {gs : Nat → Nat} {k n : Nat} {M : Nat → Nat → Int} (h : PayU w B v gs k n M) {i : Nat} (j : Nat) (hi : i < k) (x : Int) : PayU (w.setCell ⟨gs i, j, none⟩ (.int .i64 x)) B v gs k n (upd2 M i j x) := by
  have hu : Upto w.heap.size (gs i) w (w.setCell ⟨gs i, j, none⟩ (.int .i64 x)) := ⟨rfl, rfl, rfl, by simp [World.setCell], fun k _ hr => Below.heap_setCell w ⟨gs i, j, none⟩ _ k hr⟩
  refine ⟨ownsRow_upto h.own hu fun b hb => ⟨(h.own.lt b hb).2, fun e => h.apart i hi (by rw [hb, e])⟩, fun q hq => ?_, h.apart, h.inj, h.ge, h.nn⟩
  by_cases e : q = i
  · subst e
    refine (OwnI.set (h.row q hq) j x).congr fun r _ => ?_
    by_cases e : r = j <;> simp [upd2, e]
  · refine (World.rowIs.setOther (h.row q hq) (by show gs q ≠ gs i; exact fun e' => e (h.inj q i hq hi e')) _).congr fun r _ => ?_
    simp [upd2, e]
/-- a row of zeros more -/
theorem PayU.more {w w' : World} {B : Nat} {v v' : Value} {gs : Nat → Nat} {k n : Nat} {M : Nat → Nat → Int} (o : Obj) (h : PayU w B v gs k n M) (hB : B ≤ w.heap.size) (hz : ∀ j, M k j = 0) (hg : ((w.alloc (.cells (madeCells #[.int .i64 0] n) 3)).alloc o).grownBy w' v.ownBlock)
    (hown : w'.ownsRow B 26 1 v' (k + 1) ((List.range k).map (fun i => Value.slice (some ⟨gs i, 0, none⟩) n n) ++ [.slice (some ⟨w.heap.size, 0, none⟩) n n])) (hn : v ≠ .slice none 0 0 → v' ≠ .slice none 0 0)
    (hat : v'.ownBlock = v.ownBlock ∨ v'.ownBlock = some ((w.alloc (.cells (madeCells #[.int .i64 0] n) 3)).alloc o).heap.size) : ∃ gs', PayU w' B v' gs' (k + 1) n M := by
  have hb : Below w.heap.size w ((w.alloc (.cells (madeCells #[.int .i64 0] n) 3)).alloc o) := ((Below.refl _ _).alloc (Nat.le_refl _) _).alloc (by simp) _
  have hrow : OwnI ((w.alloc (.cells (madeCells #[.int .i64 0] n) 3)).alloc o) w.heap.size n (fun _ => 0) := rowIs_below (OwnI.made w n) ((Below.refl _ _).alloc (Nat.le_refl _) _)
  have hv : ∀ b, v.ownBlock = some b → b < w.heap.size := fun b e => (h.own.lt b e).2
  have hlt : ∀ i, i < k → gs i < w.heap.size := fun i hi => (h.row i hi).lt
  have h' := h.below hb
  have key : ∀ i, i < k → (if i = k then w.heap.size else gs i) = gs i := fun i hi => if_neg (by omega)
  refine ⟨fun i => if i = k then w.heap.size else gs i, ?_, fun i hi => ?_, fun i hi => ?_, fun i j hi hj e => ?_, fun i hi => ?_, hn h.nn⟩
  · rw [List.range_succ, List.map_append]
    have e : (List.range k).map (fun i => Value.slice (some ⟨if i = k then w.heap.size else gs i, 0, none⟩) n n) = (List.range k).map (fun i => Value.slice (some ⟨gs i, 0, none⟩) n n) := by
      refine List.map_congr_left fun i hi => ?_
      rw [key i (List.mem_range.1 hi)]
    rw [e]; simpa using hown
  · by_cases e : i = k
    · simp only [e, if_true]
      exact World.rowIs.congr (rowIs_grown hrow hg (fun e => by have := hv _ e; omega)) fun j _ => by rw [hz j]
    · simp only [e, if_false]
      exact rowIs_grown (h'.row i (by omega)) hg (h.apart i (by omega))
  · by_cases e : i = k
    · simp only [e, if_true]
      rcases hat with h1 | h1
      · rw [h1]; exact fun e => by have := hv _ e; omega
      · rw [h1]; intro e; have e' := Option.some.inj e; simp at e'; omega
    · simp only [e, if_false]
      rcases hat with h1 | h1
      · rw [h1]; exact h.apart i (by omega)
      · rw [h1]; have := hlt i (by omega); intro e; have e' := Option.some.inj e; simp at e'; omega
  · by_cases e1 : i = k <;> by_cases e2 : j = k
    · omega
    · simp only [e1, e2, if_true, if_false] at e; have := hlt j (by omega); omega
    · simp only [e1, e2, if_true, if_false] at e; have := hlt i (by omega); omega
    · simp only [e1, e2, if_false] at e; exact h.inj i j (by omega) (by omega) e
  · by_cases e : i = k
    · simp only [e, if_true]; exact hB
    · simp only [e, if_false]; exact h.ge i (by omega)
theorem PayU.start (w : World) (B n : Nat) (gs : Nat → Nat) (M : Nat → Nat → Int) (hB : B ≤ w.heap.size) : PayU (w.alloc (.cells #[] 26)) B (.slice (some ⟨w.heap.size, 0, none⟩) 0 0) gs 0 n M :=
  ⟨World.ownsRow_lit w #[] 0 hB (by decide) rfl, fun i hi => by omega, fun i hi => by omega, fun i j hi => by omega, fun i hi => by omega, by simp⟩
theorem PayU.head {w : World} {B g c : Nat} {gs : Nat → Nat} {k n : Nat} {M : Nat → Nat → Int} (h : PayU w B (.slice (some ⟨g, 0, none⟩) k c) gs k n M) {i : Nat} (hi : i < k) : w.cell? ⟨g, i, none⟩ = some (.slice (some ⟨gs i, 0, none⟩) n n) := by
  have := World.ownsRow.cells h.own (g := g) rfl i (.slice (some ⟨gs i, 0, none⟩) n n) (by simp [hi])
  rwa [Addr.add_lit, Nat.zero_add] at this
/-- a table's memory, row by row -/
theorem tab_of {w : World} {B g c : Nat} {cs : List Value} {rows : List (List Int)} (ho : w.ownsRow B 26 1 (.slice (some ⟨g, 0, none⟩) rows.length c) rows.length cs)
    (h : ∀ i, i < rows.length → (nth rows i).length ≤ 1048576 ∧ ∃ A C, cs[i]? = some (.slice A (nth rows i).length C) ∧ (nth rows i).length ≤ C ∧ C ≤ 9223372036854775807 ∧ Ints w A (nth rows i)) : Tab w (some ⟨g, 0, none⟩) rows := by
  by_cases h0 : 0 < rows.length
  · refine .inr ⟨g, 0, rfl, (ho.lt g rfl).2, fun k hk => ?_⟩
    obtain ⟨h1, A, C, h2, h3, h4, h5⟩ := h k hk
    refine ⟨h1, A, C, ?_, h3, h4, h5⟩
    have := World.ownsRow.cells ho (g := g) rfl k _ h2
    rw [Addr.add_lit, Nat.zero_add] at this
    simpa [rowL] using this
  · exact .inl (List.eq_nil_of_length_eq_zero (by omega))
def rowsK (M : Nat → Nat → Int) (k n : Nat) : List (List Int) := (List.range k).map fun i => (List.range n).map (M i)
theorem rowsK_len (M : Nat → Nat → Int) (k n : Nat) : (rowsK M k n).length = k := by simp [rowsK]
theorem rowsK_nth (M : Nat → Nat → Int) {k n i : Nat} (hi : i < k) : nth (rowsK M k n) i = (List.range n).map (M i) := by simp [rowsK, nth, hi]
theorem PayU.rowTab {w : World} {B : Nat} {v : Value} {gs : Nat → Nat} {k n : Nat} {M : Nat → Nat → Int} (h : PayU w B v gs k n M) {i : Nat} (hi : i < k) : Ints w (some ⟨gs i, 0, none⟩) ((List.range n).map (M i)) :=
  OwnI.ints (h.row i hi) (by simp) fun j hj => by simp [nth, hj]
theorem PayU.tab {w : World} {B g c : Nat} {gs : Nat → Nat} {k n : Nat} {M : Nat → Nat → Int} (h : PayU w B (.slice (some ⟨g, 0, none⟩) k c) gs k n M) (hn : n ≤ 1048576) : Tab w (some ⟨g, 0, none⟩) (rowsK M k n) := by
  have ho := h.own
  refine tab_of (B := B) (c := c) (cs := (List.range k).map fun i => Value.slice (some ⟨gs i, 0, none⟩) n n) (by rw [rowsK_len]; exact ho) fun i hi => ?_
  rw [rowsK_len] at hi
  rw [rowsK_nth M hi]
  exact ⟨by simpa using hn, _, n, by simp [hi], by simp, by omega, h.rowTab hi⟩
/-- a row of no numbers more -/
theorem PayU.tab_more {w w' : World} {B g' c' b : Nat} {v : Value} {gs : Nat → Nat} {k n : Nat} {M : Nat → Nat → Int} (h : PayU w B v gs k n M) (hg : w.grownBy w' v.ownBlock) (hn : n ≤ 1048576)
    (hown : w'.ownsRow B 26 1 (.slice (some ⟨g', 0, none⟩) (k + 1) c') (k + 1) ((List.range k).map (fun i => Value.slice (some ⟨gs i, 0, none⟩) n n) ++ [.slice (some ⟨b, 0, none⟩) 0 0])) : Tab w' (some ⟨g', 0, none⟩) (rowsK M k n ++ [[]]) := by
  have e : (rowsK M k n ++ [[]]).length = k + 1 := by simp [rowsK_len]
  refine tab_of (B := B) (c := c') (cs := (List.range k).map (fun i => Value.slice (some ⟨gs i, 0, none⟩) n n) ++ [.slice (some ⟨b, 0, none⟩) 0 0]) (by rw [e]; exact hown) fun i hi => ?_
  rw [e] at hi
  by_cases hik : i < k
  · rw [nth_append_left (by rw [rowsK_len]; exact hik), rowsK_nth M hik]
    refine ⟨by simpa using hn, some ⟨gs i, 0, none⟩, n, ?_, by simp, by omega, ?_⟩
    · rw [List.getElem?_append_left (by simpa using hik)]; simp [hik]
    · exact OwnI.ints (rowIs_grown (h.row i hik) hg (h.apart i hik)) (by simp) fun j hj => by simp [nth, hj]
  · obtain rfl : i = k := by omega
    have e2 : nth (rowsK M i n ++ [[]]) i = [] := by
      rw [nth_append_right (by rw [rowsK_len]; exact Nat.le_refl _), rowsK_len, Nat.sub_self]; rfl
    rw [e2]
    exact ⟨by simp, some ⟨b, 0, none⟩, 0, by rw [List.getElem?_append_right (by simp)]; simp, by simp, by simp, .inl rfl⟩
end Go.Proofs.YtnjpifaphmeepaaDoor
