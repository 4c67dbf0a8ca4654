/- Walks: impl.DeedDo: what stands in its frame; the ways on which nothing is changed. -/
import Derived.Test.YtmckkhncbocfhaaDoorK2
set_option linter.unusedSimpArgs false
set_option linter.unusedVariables false
namespace Go.Proofs.YtmckkhncbocfhaaDoor
open Go Go.RowKit Go.Sort

/-- a survey and a truth come back, its legs the call's own -/
def SvOut (p : Sv × Bool) (w : World) (e : Ending) (w' : World) : Prop := ∃ v, e = .returned (.tuple #[.agg #[.int .i64 p.1.st, v], .bool p.2]) ∧ OwnL w' w.heap.size v p.1.legs ∧ Below w.heap.size w w'

/-- a survey lies in a block -/
structure AtS (w : World) (X : Nat) (st : Int) (v : Value) : Prop where
  lt : X < w.heap.size
  c0 : w.cell? ⟨X, 0, none⟩ = some (.int .i64 st)
  c1 : w.cell? ⟨X, 1, none⟩ = some v
  f0 : w.frozen? ⟨X, 0, none⟩ = false
  f1 : w.frozen? ⟨X, 1, none⟩ = false
theorem AtS.below {w w' : World} {X : Nat} {st : Int} {v : Value} (h : AtS w X st v) (hb : Below w.heap.size w w') : AtS w' X st v :=
  ⟨Nat.lt_of_lt_of_le h.lt hb.size, (hb.cell (p := ⟨X, 0, none⟩) h.lt).trans h.c0, (hb.cell (p := ⟨X, 1, none⟩) h.lt).trans h.c1, (hb.frozen (p := ⟨X, 0, none⟩) h.lt).trans h.f0, (hb.frozen (p := ⟨X, 1, none⟩) h.lt).trans h.f1⟩
theorem AtS.belowB {w w' : World} {X B : Nat} {st : Int} {v : Value} (h : AtS w X st v) (hb : Below B w w') (hX : X < B) : AtS w' X st v :=
  ⟨Nat.lt_of_lt_of_le h.lt hb.size, (hb.cell (p := ⟨X, 0, none⟩) hX).trans h.c0, (hb.cell (p := ⟨X, 1, none⟩) hX).trans h.c1, (hb.frozen (p := ⟨X, 0, none⟩) hX).trans h.f0, (hb.frozen (p := ⟨X, 1, none⟩) hX).trans h.f1⟩
/-- a deed lies in a block -/
structure AtD (w : World) (X : Nat) (d : Dd) : Prop where
  lt : X < w.heap.size
  c0 : w.cell? ⟨X, 0, none⟩ = some (.int .i64 d.kind)
  c1 : w.cell? ⟨X, 1, none⟩ = some (.int .i64 d.index)
  c2 : w.cell? ⟨X, 2, none⟩ = some (.int .i64 d.leg.frm)
  c3 : w.cell? ⟨X, 3, none⟩ = some (.int .i64 d.leg.to)
  c4 : w.cell? ⟨X, 4, none⟩ = some (.int .i64 d.leg.east)
  c5 : w.cell? ⟨X, 5, none⟩ = some (.int .i64 d.leg.north)
  c6 : w.cell? ⟨X, 6, none⟩ = some (.int .i64 d.leg.up)
theorem AtD.belowB {w w' : World} {X B : Nat} {d : Dd} (h : AtD w X d) (hb : Below B w w') (hX : X < B) : AtD w' X d :=
  ⟨Nat.lt_of_lt_of_le h.lt hb.size, (hb.cell (p := ⟨X, 0, none⟩) hX).trans h.c0, (hb.cell (p := ⟨X, 1, none⟩) hX).trans h.c1, (hb.cell (p := ⟨X, 2, none⟩) hX).trans h.c2, (hb.cell (p := ⟨X, 3, none⟩) hX).trans h.c3, (hb.cell (p := ⟨X, 4, none⟩) hX).trans h.c4, (hb.cell (p := ⟨X, 5, none⟩) hX).trans h.c5, (hb.cell (p := ⟨X, 6, none⟩) hX).trans h.c6⟩
theorem AtD.below {w w' : World} {X : Nat} {d : Dd} (h : AtD w X d) (hb : Below w.heap.size w w') : AtD w' X d := h.belowB hb h.lt
theorem AtS.block {w w' : World} {X : Nat} {st : Int} {v : Value} (h : AtS w X st v) (hb : w'.heap[X]? = w.heap[X]?) : AtS w' X st v :=
  have hl : X < w'.heap.size := by
    have h1 : (w.heap[X]?).isSome = true := by rw [Array.getElem?_eq_getElem h.lt]; rfl
    rw [← hb] at h1
    apply Nat.lt_of_not_le
    intro hle
    rw [Array.getElem?_eq_none hle] at h1
    cases h1
  ⟨hl, (World.cell?_of_block (w := w) (a := ⟨X, 0, none⟩) hb).trans h.c0, (World.cell?_of_block (w := w) (a := ⟨X, 1, none⟩) hb).trans h.c1, (World.frozen?_of_block (w := w) (a := ⟨X, 0, none⟩) hb).trans h.f0, (World.frozen?_of_block (w := w) (a := ⟨X, 1, none⟩) hb).trans h.f1⟩
theorem AtS.set0 {w : World} {X : Nat} {st : Int} {v : Value} (h : AtS w X st v) (st' : Int) : AtS (w.setCell ⟨X, 0, none⟩ (.int .i64 st')) X st' v :=
  ⟨by simpa [World.setCell] using h.lt, World.cell?_setCell_same _ _ _ h.c0, (World.cell?_setCell_other _ _ _ _ (by simp)).trans h.c1, by rw [World.frozen?_setCell]; exact h.f0, by rw [World.frozen?_setCell]; exact h.f1⟩
theorem AtS.set1 {w : World} {X : Nat} {st : Int} {v : Value} (h : AtS w X st v) (v' : Value) : AtS (w.setCell ⟨X, 1, none⟩ v') X st v' :=
  ⟨by simpa [World.setCell] using h.lt, (World.cell?_setCell_other _ _ _ _ (by simp)).trans h.c0, World.cell?_setCell_same _ _ _ h.c1, by rw [World.frozen?_setCell]; exact h.f0, by rw [World.frozen?_setCell]; exact h.f1⟩
theorem AtS.kept {w w' : World} {X : Nat} {st : Int} {v : Value} {row : Option Nat} (h : AtS w X st v) (hg : w.grownBy w' row) (hne : some X ≠ row) : AtS w' X st v := h.block (hg.block X h.lt hne)
theorem AtS.alloc {w : World} {X : Nat} {st : Int} {v : Value} (h : AtS w X st v) (o : Obj) : AtS (w.alloc o) X st v := h.below ((Below.refl _ _).alloc (Nat.le_refl _) o)
theorem AtD.alloc {w : World} {X : Nat} {d : Dd} (h : AtD w X d) (o : Obj) : AtD (w.alloc o) X d := h.below ((Below.refl _ _).alloc (Nat.le_refl _) o)
theorem AtS.new (w : World) (st : Int) (v : Value) (T : TypeId) : AtS (w.alloc (.cells #[.int .i64 st, v] T)) w.heap.size st v := ⟨by simp, by simp, by simp, by simp, by simp⟩
theorem AtD.new (w : World) (d : Dd) (T : TypeId) : AtD (w.alloc (.cells #[.int .i64 d.kind, .int .i64 d.index, .int .i64 d.leg.frm, .int .i64 d.leg.to, .int .i64 d.leg.east, .int .i64 d.leg.north, .int .i64 d.leg.up] T)) w.heap.size d := ⟨by simp, by simp, by simp, by simp, by simp, by simp, by simp, by simp⟩
/-- three blocks laid one behind the other: a survey, a deed, the survey that is to come back -/
structure Fr (w : World) (X : Nat) (st : Int) (v : Value) (d : Dd) : Prop where
  s : AtS w X st v
  d : AtD w (X + 1) d
  r : AtS w (X + 1 + 1) 0 (.slice none 0 0)
theorem Fr.below {w w' : World} {X : Nat} {st : Int} {v : Value} {d : Dd} (h : Fr w X st v d) (hb : Below w.heap.size w w') : Fr w' X st v d := ⟨h.s.below hb, h.d.below hb, h.r.below hb⟩
theorem Fr.belowB {w w' : World} {X B : Nat} {st : Int} {v : Value} {d : Dd} (h : Fr w X st v d) (hb : Below B w w') (hX : X + 1 + 1 < B) : Fr w' X st v d := ⟨h.s.belowB hb (by omega), h.d.belowB hb (by omega), h.r.belowB hb hX⟩
theorem Fr.new (w : World) (st : Int) (v : Value) (d : Dd) (T U V : TypeId) : Fr (((w.alloc (.cells #[.int .i64 st, v] T)).alloc (.cells #[.int .i64 d.kind, .int .i64 d.index, .int .i64 d.leg.frm, .int .i64 d.leg.to, .int .i64 d.leg.east, .int .i64 d.leg.north, .int .i64 d.leg.up] U)).alloc (.cells #[.int .i64 0, .slice none 0 0] V)) w.heap.size st v d := by
  refine ⟨((AtS.new w st v T).alloc _).alloc _, ?_, ?_⟩
  · have := (AtD.new (w.alloc (.cells #[.int .i64 st, v] T)) d U).alloc (.cells #[.int .i64 0, .slice none 0 0] V)
    rwa [show (w.alloc (.cells #[.int .i64 st, v] T)).heap.size = w.heap.size + 1 by simp] at this
  · have := AtS.new ((w.alloc (.cells #[.int .i64 st, v] T)).alloc (.cells #[.int .i64 d.kind, .int .i64 d.index, .int .i64 d.leg.frm, .int .i64 d.leg.to, .int .i64 d.leg.east, .int .i64 d.leg.north, .int .i64 d.leg.up] U)) 0 (.slice none 0 0) V
    rwa [show ((w.alloc (.cells #[.int .i64 st, v] T)).alloc (.cells #[.int .i64 d.kind, .int .i64 d.index, .int .i64 d.leg.frm, .int .i64 d.leg.to, .int .i64 d.leg.east, .int .i64 d.leg.north, .int .i64 d.leg.up] U)).heap.size = w.heap.size + 1 + 1 by simp] at this

end Go.Proofs.YtmckkhncbocfhaaDoor
