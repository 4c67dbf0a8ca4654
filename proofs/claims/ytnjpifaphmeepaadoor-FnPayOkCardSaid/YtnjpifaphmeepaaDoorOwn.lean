/- Rows that the call itself makes: append of one, make, matrices. At this program's numbers. -/
import Derived.Test.YtnjpifaphmeepaaDoorProg
import Derived.Test.YtnjpifaphmeepaaDoorMem
import Derived.KernelRfl
namespace Go.Proofs.YtnjpifaphmeepaaDoor
open Go Go.RowKit

theorem infoInt : (Tryd.prog.info? 3).map (fun i => (i.zero, i.size, i.bytes)) = some (some (.int .i64 0), 1, 8) := by kernel_rfl
theorem infoInts : (Tryd.prog.info? 26).map (fun i => (i.zero, i.size, i.bytes)) = some (some (.slice none 0 0), 1, 24) := by kernel_rfl

/-- make([]int, n) -/
theorem mkInts (n : Nat) (h : n ≤ 2097152) (w : World) : (Instr.makeSlice 26 (.int .i64 (n : Int)) (.int .i64 (n : Int))).run Tryd.prog w =
    .ok (.slice (some ⟨w.heap.size, 0, none⟩) n n) (w.alloc (.cells (madeCells #[.int .i64 0] n) 3)) :=
  run_make_row' 26 3 (.int .i64 0) 8 Tryd.underlying26 infoInt rfl .i64 .i64 n (by omega) (by omega) w
/-- make([][]int, n) -/
theorem mkRows (n : Nat) (h : n ≤ 2097152) (w : World) : (Instr.makeSlice 43 (.int .i64 (n : Int)) (.int .i64 (n : Int))).run Tryd.prog w =
    .ok (.slice (some ⟨w.heap.size, 0, none⟩) n n) (w.alloc (.cells (madeCells #[.slice none 0 0] n) 26)) :=
  run_make_row' 43 26 (.slice none 0 0) 24 Tryd.underlying43 infoInts rfl .i64 .i64 n (by omega) (by omega) w

/-- numbers in a row of the call's own -/
abbrev OwnI (w : World) (b n : Nat) (f : Nat → Int) : Prop := w.rowIs b 3 n (fun j => .int .i64 (f j))
theorem OwnI.made (w : World) (n : Nat) : OwnI (w.alloc (.cells (madeCells #[.int .i64 0] n) 3)) w.heap.size n (fun _ => 0) := World.rowIs_made w _ n _
theorem rowIs_below {w w' : World} {b t n : Nat} {f : Nat → Value} (h : w.rowIs b t n f) (hb : Below w.heap.size w w') : w'.rowIs b t n f := h.of_block (hb.block b h.lt)
theorem rowIs_of_below {w w' : World} {b t n B : Nat} {f : Nat → Value} (h : w.rowIs b t n f) (hb : Below B w w') (hB : b < B) : w'.rowIs b t n f := h.of_block (hb.block b hB)
theorem rowIs_drewN {w : World} {b t n q : Nat} {f : Nat → Value} (h : w.rowIs b t n f) : (w.drewN q).rowIs b t n f := h
theorem OwnI.set {w : World} {b n : Nat} {f : Nat → Int} (h : OwnI w b n f) (i : Nat) (x : Int) : OwnI (w.setCell ⟨b, i, none⟩ (.int .i64 x)) b n (fun j => if j = i then x else f j) := by
  refine (World.rowIs.set h i _).congr fun j _ => ?_
  by_cases e : j = i <;> simp [e]
theorem OwnI.ints {w : World} {b : Nat} {n : Nat} {f : Nat → Int} {xs : List Int} (h : OwnI w b n f) (hn : xs.length = n) (hx : ∀ j, j < n → f j = nth xs j) : Ints w (some ⟨b, 0, none⟩) xs :=
  Ints.mk h.lt fun j hj => by rw [Nat.zero_add, h.cell (by omega), hx j (by omega)]

/-- append(v, x1), v the call's own -/
theorem appInt {w : World} {ops : Array Oper} {rest : List Oper} {o : Oper} {a : Act} {Q : Exit → Act → World → Prop} (s x : Operand) (hg : o.guard = none)
    (hop : o.op = .call { callee := .builtin .append, args := #[s, x], argTypes := #[26, 26] }) (B : Nat) (v : Value) (xs : List Int) (x1 : Int) (b c : Nat) (hs : a.eval s = v)
    (hown : w.ownsRow B 3 1 v xs.length (xs.map (Value.int .i64))) (hx : a.eval x = .slice (some ⟨b, 0, none⟩) 1 c) (hc : w.cell? ⟨b, 0, none⟩ = some (.int .i64 x1)) (hl : xs.length ≤ 2097152) (hB : B ≤ w.heap.size)
    (hK : ∀ v' w', w'.ownsRow B 3 1 v' (xs ++ [x1]).length ((xs ++ [x1]).map (Value.int .i64)) → Below B w w' → wpList Tryd.prog ops Q rest (a.put o.dst v') w') : wpList Tryd.prog ops Q (o :: rest) a w := by
  obtain ⟨i0, hi, hz0, hz1, hz2⟩ := info_parts infoInt
  refine wpList_append_own _ hg s x 26 hop B 3 i0 (.int .i64 0) 1 8 Tryd.underlying26 hi hz0 hz1 hz2 rfl (by decide) v xs.length _ hs hown ⟨b, 0, none⟩ 1 c [.int .i64 x1] hx rfl ?_ ?_ (by unfold maxLen; omega) (by omega) hB ?_
  · intro j u hj
    match j, hj with
    | 0, hj => simp at hj; subst hj; rw [Addr.add_lit]; exact hc
  · intro u hu; simp at hu; subst hu; rfl
  · intro v' w' hown' hgr _
    refine hK v' w' (by simpa using hown') (grown_below hgr hB fun k hk => (hown.lt k hk).1)

/-- a square of numbers: block b0 holds the rows' slices, row i lies in block b0 + 1 + i -/
def MatAt (w : World) (b0 n : Nat) (M : Nat → Nat → Int) : Prop :=
  w.rowIs b0 26 n (fun i => .slice (some ⟨b0 + 1 + i, 0, none⟩) n n) ∧ ∀ i, i < n → OwnI w (b0 + 1 + i) n (M i)
theorem MatAt.below {w w' : World} {b0 n : Nat} {M : Nat → Nat → Int} (h : MatAt w b0 n M) (hb : Below w.heap.size w w') : MatAt w' b0 n M := ⟨rowIs_below h.1 hb, fun i hi => rowIs_below (h.2 i hi) hb⟩
theorem MatAt.set {w : World} {b0 n : Nat} {M : Nat → Nat → Int} (h : MatAt w b0 n M) {i j : Nat} (hi : i < n) (x : Int) :
    MatAt (w.setCell ⟨b0 + 1 + i, j, none⟩ (.int .i64 x)) b0 n (fun p q => if p = i ∧ q = j then x else M p q) := by
  refine ⟨World.rowIs.setOther h.1 (by simp; omega) _, fun p hp => ?_⟩
  by_cases e : p = i
  · subst e
    refine (OwnI.set (h.2 p hp) j x).congr fun q _ => ?_
    by_cases e : q = j <;> simp [e]
  · refine (World.rowIs.setOther (h.2 p hp) (by simp; omega) _).congr fun q _ => ?_
    simp [e]
theorem MatAt.congr {w : World} {b0 n : Nat} {M M' : Nat → Nat → Int} (h : MatAt w b0 n M) (e : ∀ i j, i < n → j < n → M i j = M' i j) : MatAt w b0 n M' :=
  ⟨h.1, fun i hi => World.rowIs.congr (h.2 i hi) fun j hj => by rw [e i j hi hj]⟩
end Go.Proofs.YtnjpifaphmeepaaDoor
