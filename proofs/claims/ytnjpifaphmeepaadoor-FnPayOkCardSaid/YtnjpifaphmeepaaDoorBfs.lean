/- What the search for a way keeps true, step by step. Plain mathematics. -/
import Derived.Test.YtnjpifaphmeepaaDoorFlow
namespace Go.Proofs.YtnjpifaphmeepaaDoor
open Go Go.RowKit

/-- `ord`: the points in the order in which they were reached; those before place p have been searched from -/
structure BInv (N s : Nat) (R : Nat → Nat → Int) (f : Nat → Int) (ord : List Nat) (p : Nat) : Prop where
  nodup : ord.Nodup
  lt : ∀ v ∈ ord, v < N
  mem : ∀ v, v < N → (0 ≤ f v ↔ v ∈ ord)
  rng : ∀ v, v < N → -1 ≤ f v ∧ f v < N
  head : ord[0]? = some s
  start : f s = s
  par : ∀ (i v : Nat), ord[i]? = some v → 0 < i → ∃ j u, j < i ∧ ord[j]? = some u ∧ f v = (u : Int) ∧ 0 < R u v
  done : ∀ (j u : Nat), j < p → ord[j]? = some u → ∀ v, v < N → 0 < R u v → v ∈ ord

theorem nodup_len : ∀ {N : Nat} {l : List Nat}, l.Nodup → (∀ v ∈ l, v < N) → l.length ≤ N := by
  intro N
  induction N with
  | zero =>
    intro l _ hl
    cases l with
    | nil => exact Nat.le_refl _
    | cons x l => have := hl x (by simp); omega
  | succ N ih =>
    intro l hn hl
    have h1 := ih (hn.erase N) fun v hv => by
      obtain ⟨h2, h3⟩ := (hn.mem_erase_iff).1 hv
      have := hl v h3
      omega
    rw [List.length_erase] at h1
    split at h1 <;> omega

theorem BInv.first {N s : Nat} {R : Nat → Nat → Int} (hs : s < N) : BInv N s R (upd (fun _ => -1) s s) [s] 0 where
  nodup := by simp
  lt := by intro v hv; simp at hv; omega
  mem := by
    intro v _
    unfold upd
    split
    · rename_i e; simp [e]
    · rename_i e; simp [e]
  rng := by intro v _; unfold upd; split
            · omega
            · show -1 ≤ (-1 : Int) ∧ (-1 : Int) < N; omega
  head := rfl
  start := by simp [upd]
  par := by intro i v h h0; match i, h0 with | i + 1, _ => simp at h
  done := by intro j u h; omega

theorem BInv.len {N s : Nat} {R : Nat → Nat → Int} {f : Nat → Int} {ord : List Nat} {p : Nat} (h : BInv N s R f ord p) : ord.length ≤ N := nodup_len h.nodup h.lt

theorem BInv.add {N s : Nat} {R : Nat → Nat → Int} {f : Nat → Int} {ord : List Nat} {p u v : Nat} (h : BInv N s R f ord p) (hu : ord[p]? = some u) (hv : v < N) (hR : 0 < R u v) (hf : f v < 0) :
    BInv N s R (upd f v u) (ord ++ [v]) p where
  nodup := by
    have : v ∉ ord := fun hm => by have := (h.mem v hv).2 hm; omega
    rw [List.nodup_append]
    exact ⟨h.nodup, by simp, fun a ha b hb => by simp at hb; subst hb; exact fun e => this (e ▸ ha)⟩
  lt := by
    intro x hx
    rcases List.mem_append.1 hx with hx | hx
    · exact h.lt x hx
    · simp at hx; omega
  mem := by
    intro x hx
    unfold upd
    split
    · rename_i e; subst e; simp
    · rename_i e; rw [h.mem x hx]; simp [e]
  rng := by
    intro x hx
    have hul : u < N := h.lt u (List.mem_of_getElem? hu)
    unfold upd; split
    · omega
    · exact h.rng x hx
  head := by rw [List.getElem?_append_left (by have := (List.getElem?_eq_some_iff.1 h.head).1; omega)]; exact h.head
  start := by
    have hm : s ∈ ord := List.mem_of_getElem? h.head
    have : s ≠ v := by intro e; subst e; have := h.start; omega
    unfold upd; rw [if_neg this]; exact h.start
  par := by
    intro i x hi h0
    have hp : p < ord.length := (List.getElem?_eq_some_iff.1 hu).1
    by_cases hlt : i < ord.length
    · rw [List.getElem?_append_left hlt] at hi
      obtain ⟨j, y, h1, h2, h3, h4⟩ := h.par i x hi h0
      refine ⟨j, y, h1, by rw [List.getElem?_append_left (by omega)]; exact h2, ?_, h4⟩
      have : x ≠ v := by
        intro e; subst e
        have := (h.mem x hv).2 (List.mem_of_getElem? hi); omega
      unfold upd; rw [if_neg this]; exact h3
    · rw [List.getElem?_append_right (by omega)] at hi
      have h1 := (List.getElem?_eq_some_iff.1 hi).1
      simp at h1
      have e : i - ord.length = 0 := by omega
      rw [e] at hi
      simp at hi
      subst hi
      exact ⟨p, u, by omega, by rw [List.getElem?_append_left hp]; exact hu, by simp [upd], hR⟩
  done := by
    intro j y hj hy x hx hRx
    have hp : p < ord.length := (List.getElem?_eq_some_iff.1 hu).1
    rw [List.getElem?_append_left (by omega)] at hy
    exact List.mem_append_left _ (h.done j y hj hy x hx hRx)

theorem BInv.next {N s : Nat} {R : Nat → Nat → Int} {f : Nat → Int} {ord : List Nat} {p u : Nat} (h : BInv N s R f ord p) (hu : ord[p]? = some u) (hd : ∀ v, v < N → 0 < R u v → v ∈ ord) : BInv N s R f ord (p + 1) :=
  { h with
    done := by
      intro j y hj hy
      by_cases e : j = p
      · subst e; rw [hu] at hy; cases hy; exact hd
      · exact h.done j y (by omega) hy }

theorem BInv.bfs {N s : Nat} {R : Nat → Nat → Int} {f : Nat → Int} {ord : List Nat} {p : Nat} (h : BInv N s R f ord p) (hp : ord.length ≤ p) : Bfs N s R f where
  range := h.rng
  start := h.start
  back := by
    refine ⟨fun v => ord.idxOf v, fun v hv hf hs => ?_⟩
    have hm := (h.mem v hv).1 hf
    have hi := List.idxOf_lt_length_of_mem hm
    have e : ord[ord.idxOf v]? = some v := by rw [List.getElem?_eq_getElem hi, List.getElem_idxOf]
    have h0 : 0 < ord.idxOf v := by
      rcases Nat.eq_zero_or_pos (ord.idxOf v) with e0 | e0
      · rw [e0, h.head] at e; cases e; exact absurd rfl hs
      · exact e0
    obtain ⟨j, u, h1, h2, h3, h4⟩ := h.par _ v e h0
    have hmu := List.mem_of_getElem? h2
    have hul := h.lt u hmu
    rw [h3, Int.toNat_natCast]
    refine ⟨(h.mem u hul).2 hmu, ?_, h4⟩
    obtain ⟨hj, hju⟩ := List.getElem?_eq_some_iff.1 h2
    have e2 := h.nodup.idxOf_getElem j hj
    rw [hju] at e2
    show ord.idxOf u < ord.idxOf v
    rw [e2]
    exact h1
  on := by
    intro u v hu hv hf hR
    have hm := (h.mem u hu).1 hf
    have hi := List.idxOf_lt_length_of_mem hm
    have e : ord[ord.idxOf u]? = some u := by rw [List.getElem?_eq_getElem hi, List.getElem_idxOf]
    exact (h.mem v hv).2 (h.done _ u (by omega) e v hv hR)
end Go.Proofs.YtnjpifaphmeepaaDoor
