/- A made row of blocks, filled place by place. -/
import Derived.Test.YtnjpifaphmeepaaDoorApp
namespace Go.Proofs.YtnjpifaphmeepaaDoor
open Go Go.RowKit

theorem mkBlkRow (n : Nat) (h : n ≤ 1048576) (w : World) : (Instr.makeSlice 23 (.int .i64 (n : Int)) (.int .i64 (n : Int))).run Tryd.prog w =
    .ok (.slice (some ⟨w.heap.size, 0, none⟩) n n) (w.alloc (.cells (madeCells #[.int .i64 0, .slice none 0 0] (n * 2)) 28)) := by
  obtain ⟨i0, hi, hz0, hz1, hz2⟩ := info_parts infoBlkD
  have h := run_make (P := Tryd.prog) w 23 28 i0 _ Tryd.underlying23 hi hz0 .i64 .i64 n n (by omega) (Int.le_refl _) (by rw [hz2]; omega) (by omega)
  simpa [hz1, Value.cells] using h

def pbCell (f : Nat → PB) (j : Nat) : Value := if j % 2 = 0 then .int .i64 (f (j / 2)).worth else .slice (f (j / 2)).a (f (j / 2)).needs.length (f (j / 2)).c
structure BRow (w : World) (G n : Nat) (f : Nat → PB) : Prop where
  row : w.rowIs G 28 (n * 2) (pbCell f)
  ok : ∀ i, i < n → (f i).Ok w ∧ ∀ b o, 0 < (f i).needs.length → (f i).a = some ⟨b, o, none⟩ → b ≠ G
theorem BRow.made (w : World) (n : Nat) : BRow (w.alloc (.cells (madeCells #[.int .i64 0, .slice none 0 0] (n * 2)) 28)) w.heap.size n (fun _ => ⟨0, [], none, 0⟩) := by
  refine ⟨?_, fun i _ => ⟨⟨by simp, by simp, by simp, .inl rfl⟩, fun b o h => by simp at h⟩⟩
  have h := World.rowIs_alloc w (madeCells #[.int .i64 0, .slice none 0 0] (n * 2)) 28 (pbCell fun _ => ⟨0, [], none, 0⟩) (fun i hi => by
    rw [size_madeCells] at hi
    have e : (madeCells #[.int .i64 0, .slice none 0 0] (n * 2))[i]? = some ((#[.int .i64 0, .slice none 0 0] : Array Value)[i % 2]!) := by
      simp [madeCells, hi]
    rw [e]
    unfold pbCell
    rcases Nat.mod_two_eq_zero_or_one i with h | h <;> simp [h])
  rwa [size_madeCells] at h
theorem BRow.lt {w : World} {G n : Nat} {f : Nat → PB} (h : BRow w G n f) : G < w.heap.size := h.row.lt
theorem BRow.below {w w' : World} {G n : Nat} {f : Nat → PB} (h : BRow w G n f) (hb : Below w.heap.size w w') : BRow w' G n f :=
  ⟨h.row.of_block (hb.block G h.lt), fun i hi => ⟨(h.ok i hi).1.below hb, (h.ok i hi).2⟩⟩
theorem BRow.frozen {w : World} {G n : Nat} {f : Nat → PB} (h : BRow w G n f) (i : Nat) : w.frozen? ⟨G, i, none⟩ = false := h.row.frozen i
theorem BRow.cell {w : World} {G n : Nat} {f : Nat → PB} (h : BRow w G n f) {i : Nat} (hi : i < n) : w.cell? ⟨G, i * 2, none⟩ = some (.int .i64 (f i).worth) ∧ w.cell? ⟨G, i * 2 + 1, none⟩ = some (.slice (f i).a (f i).needs.length (f i).c) := by
  have h1 := h.row.cell (i := i * 2) (by omega)
  have h2 := h.row.cell (i := i * 2 + 1) (by omega)
  unfold pbCell at h1 h2
  rw [if_pos (by omega), show i * 2 / 2 = i by omega] at h1
  rw [if_neg (by omega), show (i * 2 + 1) / 2 = i by omega] at h2
  exact ⟨h1, h2⟩
theorem Ints.off {w : World} {a : Option Addr} {xs : List Int} (h : Ints w a xs) {G j : Nat} (hne : ∀ b o, 0 < xs.length → a = some ⟨b, o, none⟩ → b ≠ G) (v : Value) : Ints (w.setCell ⟨G, j, none⟩ v) a xs := by
  rcases h with e | ⟨b, off, e, hb, h⟩
  · exact .inl e
  · by_cases h0 : 0 < xs.length
    · exact .inr ⟨b, off, e, by simpa [World.setCell] using hb, fun k hk => (World.cell?_setCell_other _ _ _ _ (by intro e'; simp at e'; exact absurd e'.1.symm (hne b off h0 e))).trans (h k hk)⟩
    · exact .inl (List.eq_nil_of_length_eq_zero (by omega))
theorem BRow.set {w : World} {G n : Nat} {f : Nat → PB} (h : BRow w G n f) {i : Nat} (x : PB) (hx : x.Ok w) (hne : ∀ b o, 0 < x.needs.length → x.a = some ⟨b, o, none⟩ → b ≠ G) :
    BRow ((w.setCell ⟨G, i * 2, none⟩ (.int .i64 x.worth)).setCell ⟨G, i * 2 + 1, none⟩ (.slice x.a x.needs.length x.c)) G n (fun k => if k = i then x else f k) := by
  refine ⟨?_, fun k hk => ?_⟩
  · refine (World.rowIs.set (World.rowIs.set h.row (i * 2) _) (i * 2 + 1) _).congr fun j _ => ?_
    unfold pbCell
    by_cases e1 : j = i * 2 + 1
    · subst e1; rw [if_pos rfl, if_neg (by omega), show (i * 2 + 1) / 2 = i by omega]; simp only [if_true]
    · rw [if_neg e1]
      by_cases e2 : j = i * 2
      · subst e2; rw [if_pos rfl, if_pos (by omega), show i * 2 / 2 = i by omega]; simp only [if_true]
      · rw [if_neg e2]; simp only [if_neg (show ¬ j / 2 = i by omega)]
  · have key : ∀ y : PB, y.Ok w → (∀ b o, 0 < y.needs.length → y.a = some ⟨b, o, none⟩ → b ≠ G) → y.Ok ((w.setCell ⟨G, i * 2, none⟩ (.int .i64 x.worth)).setCell ⟨G, i * 2 + 1, none⟩ (.slice x.a x.needs.length x.c)) ∧ ∀ b o, 0 < y.needs.length → y.a = some ⟨b, o, none⟩ → b ≠ G :=
      fun y h1 h2 => ⟨⟨h1.1, h1.2.1, h1.2.2.1, Ints.off (Ints.off h1.2.2.2 h2 _) h2 _⟩, h2⟩
    by_cases e : k = i
    · simp only [e, if_true]; exact key x hx hne
    · simp only [e, if_false]; exact key _ (h.ok k hk).1 (h.ok k hk).2
theorem BRow.pit {w : World} {G n : Nat} {f : Nat → PB} (h : BRow w G n f) : Pit w (some ⟨G, 0, none⟩) ((List.range n).map fun i => (f i).blk) := by
  refine .inr ⟨G, 0, rfl, h.lt, fun k hk => ?_⟩
  simp only [List.length_map, List.length_range] at hk
  obtain ⟨f1, f2⟩ := h.cell hk
  obtain ⟨n1, n2, n3, n4⟩ := (h.ok k hk).1
  have en : nth ((List.range n).map fun i => (f i).blk) k = (f k).blk := by simp [nth, hk]
  rw [en]
  exact ⟨by rw [Nat.zero_add]; exact f1, n1, (f k).a, (f k).c, by rw [Nat.zero_add]; exact f2, n2, n3, n4⟩
end Go.Proofs.YtnjpifaphmeepaaDoor
