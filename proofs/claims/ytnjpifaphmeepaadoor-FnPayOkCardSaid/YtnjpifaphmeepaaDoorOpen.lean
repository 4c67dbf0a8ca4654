/- The laws' arguments, read as data, as the walks want them. No program. -/
import Derived.Test.YtnjpifaphmeepaaDoorPit
import Derived.ProofKit
import Derived.Deep.Slices
import Derived.Deep.SlicePairs
namespace Go.Proofs.YtnjpifaphmeepaaDoor
open Go Go.RowKit Go.Deep Go.ChangeShapes Go.ChangeMaps

section
variable {H : Type} {enc : TypeId × Value → H} {P : Program} {w : World} {base fuel : Nat} {spare : Nat → Bool} {held : Bool}

theorem addr_of_cell {w : World} {x : Addr} {v : Value} (h : w.cell? (x.add 0) = some v) : x = ⟨x.block, x.off, none⟩ := by
  obtain ⟨b, o, s⟩ := x
  have : s = none := by simpa [Addr.add] using World.cell?_spot h
  subst this
  rfl

theorem open_Ints {t e : TypeId} {a : Option Addr} {len cap : Nat} {x : DataW H × List MemPlace} (ht : P.underlying t = some (.slice e)) (he : P.underlying e = some (.int .i64)) (hc : P.cellsOf e = 1)
    (h : DataW.trod enc P w base spare held fuel t [.slice a len cap] = some x) : ∃ xs : List Int, xs.length = len ∧ len ≤ cap ∧ cap ≤ maxLen ∧ Ints w a xs := by
  rcases open_ints ht he hc h with ⟨hcs, _⟩ | ⟨y, l, c, zs, hcs, _, hl, hm, hz, _, hcell, hwz⟩
  · simp at hcs
    obtain ⟨rfl, rfl, rfl⟩ := hcs
    exact ⟨[], rfl, Nat.le_refl _, Nat.zero_le _, .inl rfl⟩
  · simp at hcs
    obtain ⟨rfl, rfl, rfl⟩ := hcs
    have hlen : len ≤ zs.length := by rw [hz]; split <;> omega
    refine ⟨zs.take len, by simp; omega, hl, hm, ?_⟩
    by_cases h0 : len = 0
    · subst h0; exact .inl (by simp)
    · have h1 := hcell 0 (by omega)
      have e1 := addr_of_cell h1
      generalize y.block = b, y.off = o at e1
      subst e1
      refine Ints.mk (cell_lt (by simpa [Addr.add] using h1)) fun j hj => ?_
      simp only [List.length_take] at hj
      have := hcell j (by omega)
      rw [Addr.add_lit] at this
      rw [this, nth_take (by omega)]
      rfl

theorem open_RawTab {t e q : TypeId} {a : Option Addr} {len cap : Nat} {x : DataW H × List MemPlace} (ht : P.underlying t = some (.slice e)) (he : P.underlying e = some (.slice q)) (hq : P.underlying q = some (.int .i64)) (ce : P.cellsOf e = 1) (cq : P.cellsOf q = 1)
    (h : DataW.trod enc P w base spare held fuel t [.slice a len cap] = some x) : ∃ xs : List (List Int), xs.length = len ∧ len ≤ cap ∧ cap ≤ maxLen ∧ RawTab w a xs := by
  rcases open_slice1 ht ce h with ⟨hcs, _⟩ | ⟨y, l, c, m, n, V, D, Pl, hcs, _, hl, hm, hmm, _, hx⟩
  · simp at hcs
    obtain ⟨rfl, rfl, rfl⟩ := hcs
    exact ⟨[], rfl, Nat.le_refl _, Nat.zero_le _, .inl rfl⟩
  · simp at hcs
    obtain ⟨rfl, rfl, rfl⟩ := hcs
    have hlen : len ≤ m := by rw [hmm]; split <;> omega
    have each : ∀ i, i < len → ∃ r : Option Addr × Nat × List Int, w.cell? (y.add i) = some (.slice r.1 r.2.2.length r.2.1) ∧ r.2.2.length ≤ r.2.1 ∧ r.2.1 ≤ maxLen ∧ Ints w r.1 r.2.2 := by
      intro i hi
      obtain ⟨h1, h2⟩ := hx i (by omega)
      rcases open_ints he hq cq h2 with ⟨hcs, _⟩ | ⟨_, _, _, _, hcs, _⟩
      · simp at hcs
        rw [hcs] at h1 h2
        obtain ⟨xs, e1, e2, e3, e4⟩ := open_Ints he hq cq h2
        exact ⟨(_, _, xs), by rw [h1, e1], by rw [e1]; exact e2, e3, e4⟩
      · simp at hcs
        rw [hcs] at h1 h2
        obtain ⟨xs, e1, e2, e3, e4⟩ := open_Ints he hq cq h2
        exact ⟨(_, _, xs), by rw [h1, e1], by rw [e1]; exact e2, e3, e4⟩
    obtain ⟨F, hF⟩ := choose_lt each
    refine ⟨(List.range len).map fun i => (F i).2.2, by simp, hl, hm, ?_⟩
    by_cases h0 : len = 0
    · subst h0; exact .inl (by simp)
    · have h1 := (hF 0 (by omega)).1
      have e1 := addr_of_cell h1
      generalize y.block = b, y.off = o at e1
      subst e1
      refine .inr ⟨b, o, rfl, cell_lt (by simpa [Addr.add] using h1), fun k hk => ?_⟩
      simp only [List.length_map, List.length_range] at hk
      obtain ⟨f1, f2, f3, f4⟩ := hF k hk
      rw [Addr.add_lit] at f1
      have en : nth ((List.range len).map fun i => (F i).2.2) k = (F k).2.2 := by simp [nth, hk]
      rw [en]
      exact ⟨_, _, by simpa [rawRowL] using f1, f2, by unfold maxLen at f3; omega, f4⟩

theorem open_RawPit {t e : TypeId} {f0 f1 : Field} {q : TypeId} {a : Option Addr} {len cap : Nat} {x : DataW H × List MemPlace} (ht : P.underlying t = some (.slice e)) (he : P.underlying e = some (.struct #[f0, f1]))
    (ce : P.cellsOf e = 2) (o0 : f0.offset = 0) (o1 : f1.offset = 1) (c0 : P.cellsOf f0.type = 1) (c1 : P.cellsOf f1.type = 1) (hf0 : P.underlying f0.type = some (.int .i64)) (hf1 : P.underlying f1.type = some (.slice q)) (hq : P.underlying q = some (.int .i64)) (cq : P.cellsOf q = 1)
    (h : DataW.trod enc P w base spare held fuel t [.slice a len cap] = some x) : ∃ xs : List Blk, xs.length = len ∧ len ≤ cap ∧ cap ≤ maxLen ∧ RawPit w a xs := by
  rcases open_slice_pairs ht he ce o0 o1 c0 c1 h with ⟨hcs, _⟩ | ⟨y, l, c, m, n, V0, V1, D0, D1, P0, P1, hcs, _, hl, hm, hmm, _, hx⟩
  · simp at hcs
    obtain ⟨rfl, rfl, rfl⟩ := hcs
    exact ⟨[], rfl, Nat.le_refl _, Nat.zero_le _, .inl rfl⟩
  · simp at hcs
    obtain ⟨rfl, rfl, rfl⟩ := hcs
    have hlen : len ≤ m := by rw [hmm]; split <;> omega
    have each : ∀ i, i < len → ∃ r : Option Addr × Nat × Blk, w.cell? (y.add (i * 2)) = some (.int .i64 r.2.2.worth) ∧ w.cell? (y.add (i * 2 + 1)) = some (.slice r.1 r.2.2.needs.length r.2.1) ∧ r.2.2.needs.length ≤ r.2.1 ∧ r.2.1 ≤ maxLen ∧ Ints w r.1 r.2.2.needs := by
      intro i hi
      obtain ⟨h1, h2, h3, h4⟩ := hx i (by omega)
      obtain ⟨z, ez, _, _⟩ := DataW.trod_int hf0 h3
      simp at ez
      rw [ez] at h1
      rcases open_ints hf1 hq cq h4 with ⟨hcs, _⟩ | ⟨_, _, _, _, hcs, _⟩
      all_goals
        simp at hcs
        rw [hcs] at h2 h4
        obtain ⟨xs, e1, e2, e3, e4⟩ := open_Ints hf1 hq cq h4
        exact ⟨(_, _, ⟨z, xs⟩), h1, by rw [h2, e1], by show xs.length ≤ _; rw [e1]; exact e2, e3, e4⟩
    obtain ⟨F, hF⟩ := choose_lt each
    refine ⟨(List.range len).map fun i => (F i).2.2, by simp, hl, hm, ?_⟩
    by_cases h0 : len = 0
    · subst h0; exact .inl (by simp)
    · have h1 := (hF 0 (by omega)).1
      rw [Nat.zero_mul] at h1
      have e1 := addr_of_cell h1
      generalize y.block = b, y.off = o at e1
      subst e1
      refine .inr ⟨b, o, rfl, cell_lt (by simpa [Addr.add] using h1), fun k hk => ?_⟩
      simp only [List.length_map, List.length_range] at hk
      obtain ⟨g1, g2, g3, g4, g5⟩ := hF k hk
      rw [Addr.add_lit] at g1 g2
      have en : nth ((List.range len).map fun i => (F i).2.2) k = (F k).2.2 := by simp [nth, hk]
      rw [en]
      exact ⟨g1, _, _, g2, g3, by unfold maxLen at g4; omega, g5⟩
end
end Go.Proofs.YtnjpifaphmeepaaDoor
