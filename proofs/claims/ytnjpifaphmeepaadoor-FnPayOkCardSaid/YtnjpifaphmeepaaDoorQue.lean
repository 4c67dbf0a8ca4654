/- A queue of numbers in memory: cut at its front, appended to at its end. At this program's numbers. -/
import Derived.Test.YtnjpifaphmeepaaDoorOwn
namespace Go.Proofs.YtnjpifaphmeepaaDoor
open Go Go.RowKit

/-- block g holds, from `off` on, the numbers xs, and room for `cap` in all -/
def Que (w : World) (g off cap : Nat) (xs : List Int) : Prop :=
  xs.length ≤ cap ∧ ∃ c : Array Value, w.heap[g]? = some (.cells c 3 (0, 0)) ∧ off + cap ≤ c.size ∧ ∀ j, j < xs.length → c[off + j]? = some (.int .i64 (nth xs j))

theorem Que.of_block {w w' : World} {g off cap : Nat} {xs : List Int} (h : Que w g off cap xs) (e : w'.heap[g]? = w.heap[g]?) : Que w' g off cap xs := by
  obtain ⟨h1, c, h2, h3⟩ := h
  exact ⟨h1, c, e.trans h2, h3⟩
theorem Que.lt {w : World} {g off cap : Nat} {xs : List Int} (h : Que w g off cap xs) : g < w.heap.size := by
  obtain ⟨_, c, h2, _⟩ := h
  exact (Array.getElem?_eq_some_iff.1 h2).1
theorem Que.below {w w' : World} {g off cap : Nat} {xs : List Int} (h : Que w g off cap xs) (hb : Below w.heap.size w w') : Que w' g off cap xs := h.of_block (hb.block g h.lt)
theorem Que.alloc {w : World} {g off cap : Nat} {xs : List Int} (h : Que w g off cap xs) (o : Obj) : Que (w.alloc o) g off cap xs := h.below ((Below.refl _ _).alloc (Nat.le_refl _) o)
theorem Que.other {w : World} {g off cap : Nat} {xs : List Int} (h : Que w g off cap xs) {a : Addr} (ha : g ≠ a.block) (v : Value) : Que (w.setCell a v) g off cap xs := h.of_block (Below.heap_setCell w a v g ha)
theorem Que.cell {w : World} {g off cap : Nat} {xs : List Int} (h : Que w g off cap xs) {j : Nat} (hj : j < xs.length) : w.cell? ⟨g, off + j, none⟩ = some (.int .i64 (nth xs j)) := by
  obtain ⟨_, c, h2, _, h4⟩ := h
  simp [World.cell?, h2, h4 j hj]
theorem Que.one (w : World) (x : Int) : Que (w.alloc (.cells #[.int .i64 x] 3)) w.heap.size 0 1 [x] := by
  refine ⟨by simp, #[.int .i64 x], Deep.blk_alloc_new _ _, by simp, fun j hj => ?_⟩
  simp at hj
  subst hj
  rfl
/-- the front cut off: at the end of its room the slice stays where it is -/
theorem Que.pop {w : World} {g off cap : Nat} {x : Int} {xs : List Int} (h : Que w g off cap (x :: xs)) : Que w g (if cap = 1 then off else off + 1) (cap - 1) xs := by
  obtain ⟨h1, c, h2, h3, h4⟩ := h
  simp only [List.length_cons] at h1 h4
  by_cases e : cap = 1
  · have : xs = [] := List.eq_nil_of_length_eq_zero (by omega)
    subst this
    rw [if_pos e]
    exact ⟨by simp, c, h2, by omega, fun j hj => by simp at hj⟩
  · rw [if_neg e]
    refine ⟨by omega, c, h2, by omega, fun j hj => ?_⟩
    have := h4 (j + 1) (by omega)
    rw [show off + 1 + j = off + (j + 1) by omega, this]
    rfl

/-- append(queue, x1) -/
theorem appQue {w : World} {ops : Array Oper} {rest : List Oper} {o : Oper} {a : Act} {Q : Exit → Act → World → Prop} (s x : Operand) (hg : o.guard = none)
    (hop : o.op = .call { callee := .builtin .append, args := #[s, x], argTypes := #[26, 26] }) (g off cap : Nat) (xs : List Int) (x1 : Int) (b c : Nat)
    (hs : a.eval s = .slice (some ⟨g, off, none⟩) xs.length cap) (hq : Que w g off cap xs) (hx : a.eval x = .slice (some ⟨b, 0, none⟩) 1 c) (hc : w.cell? ⟨b, 0, none⟩ = some (.int .i64 x1)) (hl : xs.length ≤ 1048576)
    (hK : ∀ g' off' cap' w', Que w' g' off' cap' (xs ++ [x1]) → (g' = g ∨ w.heap.size ≤ g') → (∀ B, B ≤ g → B ≤ w.heap.size → Below B w w') → (∀ k, k ≠ g → k < w.heap.size → w'.heap[k]? = w.heap[k]?) →
      wpList Tryd.prog ops Q rest (a.put o.dst (.slice (some ⟨g', off', none⟩) (xs.length + 1) cap')) w') : wpList Tryd.prog ops Q (o :: rest) a w := by
  obtain ⟨i0, hi, hz0, hz1, hz2⟩ := info_parts infoInt
  obtain ⟨h1, c0, h2, h3, h4⟩ := hq
  have hcell : ∀ j, j < c0.size → w.cell? ⟨g, j, none⟩ = c0[j]? := fun j hj => by simp [World.cell?, h2]
  refine wpList_append_arg w hg s x 26 hop 3 i0 (.int .i64 0) 1 8 Tryd.underlying26 hi hz0 hz1 hz2 rfl (by decide) g off xs.length cap (xs.map (Value.int .i64)) hs (by simp) ?_ ⟨b, 0, none⟩ 1 c [.int .i64 x1] hx rfl ?_ ?_ ?_ (by unfold maxLen; omega) (by omega) ?_ ?_
  · intro j u hu
    rw [List.getElem?_map] at hu
    by_cases hj : j < xs.length
    · rw [getElem?_nth hj] at hu
      simp at hu; subst hu
      rw [hcell _ (by omega)]; exact h4 j hj
    · rw [List.getElem?_eq_none (by omega)] at hu; simp at hu
  · intro j u hj
    match j, hj with
    | 0, hj => simp at hj; subst hj; rw [Addr.add_lit]; exact hc
  · intro u hu; simp at hu; subst hu; rfl
  · intro hr j hj
    simp at hj; subst hj
    refine ⟨?_, by simp [World.frozen?, h2]⟩
    rw [hcell _ (by omega), Array.getElem?_eq_getElem (by omega)]
    rfl
  · intro hr
    simp only [World.setCells, Nat.mul_one]
    refine hK g off cap _ ⟨by simp; omega, c0.setIfInBounds (off + xs.length) (.int .i64 x1), ?_, by simpa using h3, fun j hj => ?_⟩ (.inl rfl) (fun B hB hB2 => (Below.refl _ _).setCell hB _) fun k hk _ => Below.heap_setCell w _ _ k hk
    · simp [World.setCell, Array.getElem?_modify, h2]
    · rw [Array.getElem?_setIfInBounds]
      simp at hj
      by_cases e : j = xs.length
      · subst e; rw [if_pos rfl, if_pos (by omega), nth_append_len]
      · rw [if_neg (by omega), h4 j (by omega), nth_append_left (by omega)]
  · intro hr v' w' ho hgr
    obtain ⟨av, cv, e, hc1, hcs⟩ := ownsRow_form ho
    obtain ⟨g', rfl, hB, hg', hcs⟩ := hcs (by omega)
    have ho2 := ho.2
    rcases ho2 with ⟨hn, _⟩ | ⟨g2, cap2, cur, e2, hB2, hh, hn2, hm2, hsz, htk⟩
    · rw [e] at hn; simp at hn
    · rw [e] at e2
      simp at e2
      obtain ⟨rfl, rfl⟩ := e2
      rw [e]
      refine hK g' 0 cv w' ⟨by simp; omega, cur, hh, by omega, fun j hj => ?_⟩ (.inr hB) (fun B _ hB => (Below.refl B w).grown hgr hB fun k hk => by cases hk) fun k _ hk => hgr.block k hk (by simp)
      rw [Nat.zero_add]
      have h5 : (cur.toList.take ((xs.length + 1) * 1))[j]? = some (.int .i64 (nth (xs ++ [x1]) j)) := by
        rw [htk, show ([Value.int IntKind.i64 x1]) = [x1].map (Value.int .i64) from rfl, ← List.map_append, List.getElem?_map, getElem?_nth hj]
        rfl
      rw [List.getElem?_take] at h5
      split at h5
      · simpa using h5
      · cases h5
end Go.Proofs.YtnjpifaphmeepaaDoor
