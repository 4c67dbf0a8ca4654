/- Tables that are made row by row: memory for spec.PayMost. -/
import Derived.Test.YtnjpifaphmeepaaDoorWay
import Derived.Test.YtnjpifaphmeepaaDoorPaySt
import Derived.OneCell
namespace Go.Proofs.YtnjpifaphmeepaaDoor
open Go Go.RowKit

/-- append(v, r), v the call's own rows -/
theorem appRow {w : World} {ops : Array Oper} {rest : List Oper} {o : Oper} {a : Act} {Q : Exit → Act → World → Prop} (s x : Operand) (hw : Region.wanted o (yielded ops a.tmps) = true)
    (hop : o.op = .call { callee := .builtin .append, args := #[s, x], argTypes := #[43, 43] }) (B : Nat) (v : Value) (xs : List Value) (n : Nat) (r : Value) (b c : Nat) (hs : a.eval s = v)
    (hown : w.ownsRow B 26 1 v n xs) (hx : a.eval x = .slice (some ⟨b, 0, none⟩) 1 c) (hc : w.cell? ⟨b, 0, none⟩ = some r) (h1 : r.oneCell' = true) (hl : n ≤ 1048576) (hB : B ≤ w.heap.size)
    (hK : ∀ v' w', w'.ownsRow B 26 1 v' (n + 1) (xs ++ [r]) → Below B w w' → w.grownBy w' v.ownBlock → (v ≠ .slice none 0 0 → v' ≠ .slice none 0 0) → (v'.ownBlock = v.ownBlock ∨ v'.ownBlock = some w.heap.size) → wpList Tryd.prog ops Q rest (a.put o.dst v') w') : wpList Tryd.prog ops Q (o :: rest) a w := by
  refine BigFrame.wpList_want hw fun K hK' => ?_
  obtain ⟨i0, hi, hz0, hz1, hz2⟩ := info_parts infoInts
  obtain ⟨v', w', hr, h2, h3, h4, h5⟩ := run_append_own_at (P := Tryd.prog) w B 43 o.type 26 i0 _ 1 24 Tryd.underlying43 hi hz0 hz1 hz2 rfl (by decide) v n _ hown ⟨b, 0, none⟩ 1 c [r] rfl
    (by
      intro j u hj
      match j, hj with
      | 0, hj => simp at hj; subst hj; rw [Addr.add_lit]; exact hc
      | j + 1, hj => simp at hj)
    (by intro u hu; simp at hu; subst hu; exact h1) (by unfold maxLen; omega) (by omega) hB
  unfold Oper.wp execOp
  simp only [hop, resolve, invoke, builtin, Sem.run_bind, Sem.run_pure, Result.andThen_ok, List.map_toArray, List.map_cons, List.map_nil, hs, hx, hr]
  exact hK' _ _ (hK v' w' h2 (grown_below h3 hB fun k hk => (hown.lt k hk).1) h3 (fun h1 h2 => h1 (h4.1 h2).1) h5)

/-- a table of n rows of n numbers: the rows' slices lie in block p, row i in block gs i -/
structure PayAt (w : World) (p : Nat) (gs : Nat → Nat) (n : Nat) (M : Nat → Nat → Int) : Prop where
  head : ∀ i, i < n → w.cell? ⟨p, i, none⟩ = some (.slice (some ⟨gs i, 0, none⟩) n n)
  row : ∀ i, i < n → OwnI w (gs i) n (M i)
  apart : ∀ i, i < n → gs i ≠ p
  inj : ∀ i j, i < n → j < n → gs i = gs j → i = j
theorem PayAt.below {w w' : World} {p : Nat} {gs : Nat → Nat} {n : Nat} {M : Nat → Nat → Int} (h : PayAt w p gs n M) (hb : Below w.heap.size w w') : PayAt w' p gs n M :=
  ⟨fun i hi => (hb.cell (p := ⟨p, i, none⟩) (cell_lt (h.head i hi))).trans (h.head i hi), fun i hi => rowIs_below (h.row i hi) hb, h.apart, h.inj⟩
theorem PayAt.congr {w : World} {p : Nat} {gs : Nat → Nat} {n : Nat} {M M' : Nat → Nat → Int} (h : PayAt w p gs n M) (e : ∀ i j, i < n → j < n → M i j = M' i j) : PayAt w p gs n M' :=
  ⟨h.head, fun i hi => World.rowIs.congr (h.row i hi) fun j hj => by rw [e i j hi hj], h.apart, h.inj⟩
theorem PayAt.set {w : World} {p : Nat} {gs : Nat → Nat} {n : Nat} {M : Nat → Nat → Int} (h : PayAt w p gs n M) {i j : Nat} (hi : i < n) (x : Int) : PayAt (w.setCell ⟨gs i, j, none⟩ (.int .i64 x)) p gs n (upd2 M i j x) := by
  refine ⟨fun k hk => ?_, fun k hk => ?_, h.apart, h.inj⟩
  · rw [World.cell?_setCell_other _ _ _ _ (by simp [h.apart i hi])]; exact h.head k hk
  · by_cases e : k = i
    · subst e
      refine (OwnI.set (h.row k hk) j x).congr fun q _ => ?_
      by_cases e : q = j <;> simp [upd2, e]
    · refine (World.rowIs.setOther (h.row k hk) (by show gs k ≠ gs i; exact fun e' => e (h.inj k i hk hi e')) _).congr fun q _ => ?_
      simp [upd2, e]
def rowsOf (M : Nat → Nat → Int) (n : Nat) : List (List Int) := (List.range n).map fun i => (List.range n).map (M i)
theorem rowsOf_len (M : Nat → Nat → Int) (n : Nat) : (rowsOf M n).length = n := by simp [rowsOf]
theorem rowsOf_nth (M : Nat → Nat → Int) {n i : Nat} (hi : i < n) : nth (rowsOf M n) i = (List.range n).map (M i) := by simp [rowsOf, nth, hi]
theorem rowsOf_row (M : Nat → Nat → Int) {n i : Nat} (hi : i < n) : (nth (rowsOf M n) i).length = n := by rw [rowsOf_nth M hi]; simp
theorem rowsOf_at (M : Nat → Nat → Int) {n i j : Nat} (hi : i < n) (hj : j < n) : Mof (rowsOf M n) i j = M i j := by
  unfold Mof; rw [rowsOf_nth M hi]; simp [nth, hj]
theorem PayAt.tab {w : World} {p : Nat} {gs : Nat → Nat} {n : Nat} {M : Nat → Nat → Int} (h : PayAt w p gs n M) (hn : n ≤ 1048576) : Tab w (some ⟨p, 0, none⟩) (rowsOf M n) := by
  by_cases h0 : 0 < n
  · refine .inr ⟨p, 0, rfl, cell_lt (h.head 0 h0), fun k hk => ?_⟩
    rw [rowsOf_len] at hk
    refine ⟨by rw [rowsOf_row M hk]; exact hn, some ⟨gs k, 0, none⟩, n, ?_, by rw [rowsOf_row M hk]; exact Nat.le_refl _, by omega, ?_⟩
    · rw [rowsOf_row M hk]; simpa [rowL] using h.head k hk
    · exact OwnI.ints (h.row k hk) (rowsOf_row M hk) fun j hj => by rw [rowsOf_nth M hk]; simp [nth, hj]
  · exact .inl (by obtain rfl : n = 0 := by omega
                   rfl)

/-- the table under way: k rows are made -/
structure PayMk (w : World) (B : Nat) (v : Value) (q : Value) (gs : Nat → Nat) (k n : Nat) : Prop where
  own : w.ownsRow B 26 1 v k ((List.range k).map fun i => Value.slice (some ⟨gs i, 0, none⟩) n n)
  row : ∀ i, i < k → OwnI w (gs i) n (fun _ => 0)
  apart : ∀ i, i < k → v.ownBlock ≠ some (gs i) ∧ q.ownBlock ≠ some (gs i)
  inj : ∀ i j, i < k → j < k → gs i = gs j → i = j
  ge : ∀ i, i < k → B ≤ gs i
theorem PayMk.below {w w' : World} {B : Nat} {v q : Value} {gs : Nat → Nat} {k n : Nat} (h : PayMk w B v q gs k n) (hb : Below w.heap.size w w') : PayMk w' B v q gs k n :=
  ⟨ownsRow_below h.own hb, fun i hi => rowIs_below (h.row i hi) hb, h.apart, h.inj, h.ge⟩
theorem ownsRow_grown {w w' : World} {B E sz : Nat} {v : Value} {n : Nat} {cs : List Value} {row : Option Nat} (h : w.ownsRow B E sz v n cs) (hg : w.grownBy w' row) (hne : ∀ k, v.ownBlock = some k → row ≠ some k) : w'.ownsRow B E sz v n cs := by
  refine ⟨h.1, ?_⟩
  rcases h.2 with hn | ⟨g, cap, cur, e, hB, hh, r⟩
  · exact .inl hn
  · subst e
    exact .inr ⟨g, cap, cur, rfl, hB, (hg.block g (Array.getElem?_eq_some_iff.1 hh).1 (fun e => hne g rfl e.symm)).trans hh, r⟩
theorem rowIs_grown {w w' : World} {b t n : Nat} {f : Nat → Value} {row : Option Nat} (h : w.rowIs b t n f) (hg : w.grownBy w' row) (hne : row ≠ some b) : w'.rowIs b t n f := h.of_block (hg.block b h.lt (fun e => hne e.symm))
/-- a row more -/
theorem PayMk.more {w w' : World} {B : Nat} {v v' q : Value} {gs : Nat → Nat} {k n g : Nat} (h : PayMk w B v q gs k n) (hg : w.grownBy w' v.ownBlock) (hown : w'.ownsRow B 26 1 v' (k + 1) ((List.range k).map (fun i => Value.slice (some ⟨gs i, 0, none⟩) n n) ++ [.slice (some ⟨g, 0, none⟩) n n]))
    (hat : v'.ownBlock = v.ownBlock ∨ v'.ownBlock = some w.heap.size) (hrow : OwnI w g n (fun _ => 0)) (hgv : v.ownBlock ≠ some g) (hgq : q.ownBlock ≠ some g) (hnew : ∀ i, i < k → gs i ≠ g) (hgB : B ≤ g) : PayMk w' B v' q (fun i => if i = k then g else gs i) (k + 1) n := by
  have key : ∀ i, i < k → (if i = k then g else gs i) = gs i := fun i hi => if_neg (by omega)
  have hlt : ∀ i, i < k → gs i < w.heap.size := fun i hi => (h.row i hi).lt
  refine ⟨?_, fun i hi => ?_, fun i hi => ?_, fun i j hi hj e => ?_, fun i hi => by
    by_cases e : i = k
    · simp only [e, if_true]; exact hgB
    · simp only [e, if_false]; exact h.ge i (by omega)⟩
  · rw [List.range_succ, List.map_append]
    have e : (List.range k).map (fun i => Value.slice (some ⟨if i = k then g else gs i, 0, none⟩) n n) = (List.range k).map (fun i => Value.slice (some ⟨gs i, 0, none⟩) n n) := by
      refine List.map_congr_left fun i hi => ?_
      rw [key i (List.mem_range.1 hi)]
    rw [e]; simpa using hown
  · by_cases e : i = k
    · simp only [e, if_true]; exact rowIs_grown hrow hg hgv
    · simp only [e, if_false]
      exact rowIs_grown (h.row i (by omega)) hg (h.apart i (by omega)).1
  · by_cases e : i = k
    · simp only [e, if_true]
      refine ⟨?_, hgq⟩
      rcases hat with h1 | h1
      · rw [h1]; exact hgv
      · rw [h1]; have := hrow.lt; intro e; cases e; omega
    · simp only [e, if_false]
      refine ⟨?_, (h.apart i (by omega)).2⟩
      rcases hat with h1 | h1
      · rw [h1]; exact (h.apart i (by omega)).1
      · rw [h1]; have := hlt i (by omega); intro e; have e' : w.heap.size = gs i := Option.some.inj e; omega
  · by_cases e1 : i = k <;> by_cases e2 : j = k
    · omega
    · simp only [e1, e2, if_true, if_false] at e; exact absurd e.symm (hnew j (by omega))
    · simp only [e1, e2, if_true, if_false] at e; exact absurd e (hnew i (by omega))
    · simp only [e1, e2, if_false] at e; exact h.inj i j (by omega) (by omega) e
/-- the other row of the call's grows -/
theorem PayMk.other {w w' : World} {B : Nat} {v q q' : Value} {gs : Nat → Nat} {k n : Nat} (h : PayMk w B v q gs k n) (hg : w.grownBy w' q.ownBlock) (hvq : ∀ b, v.ownBlock = some b → q.ownBlock ≠ some b) (hat : q'.ownBlock = q.ownBlock ∨ q'.ownBlock = some w.heap.size) : PayMk w' B v q' gs k n :=
  ⟨ownsRow_grown h.own hg hvq, fun i hi => rowIs_grown (h.row i hi) hg (h.apart i hi).2, fun i hi => ⟨(h.apart i hi).1, by
    rcases hat with h1 | h1
    · rw [h1]; exact (h.apart i hi).2
    · rw [h1]; have := (h.row i hi).lt; intro e; have e' : w.heap.size = gs i := Option.some.inj e; omega⟩, h.inj, h.ge⟩
theorem PayMk.at {w : World} {B : Nat} {q : Value} {gs : Nat → Nat} {n c p : Nat} (h : PayMk w B (.slice (some ⟨p, 0, none⟩) n c) q gs n n) : PayAt w p gs n (fun _ _ => 0) :=
  ⟨fun i hi => by
    have := World.ownsRow.cells h.own (g := p) rfl i (.slice (some ⟨gs i, 0, none⟩) n n) (by simp [hi])
    rwa [Addr.add_lit, Nat.zero_add] at this, h.row, fun i hi e => (h.apart i hi).1 (by rw [e]; rfl), h.inj⟩

structure MkSt (w : World) (B : Nat) (v q : Value) (gs : Nat → Nat) (k n : Nat) (cs : List Int) : Prop where
  pm : PayMk w B v q gs k n
  oz : OwnZ w B q cs
  vn : v ≠ .slice none 0 0
  qn : q ≠ .slice none 0 0
  ne : ∀ b, v.ownBlock = some b → q.ownBlock ≠ some b
theorem MkSt.below {w w' : World} {B : Nat} {v q : Value} {gs : Nat → Nat} {k n : Nat} {cs : List Int} (h : MkSt w B v q gs k n cs) (hb : Below w.heap.size w w') : MkSt w' B v q gs k n cs :=
  ⟨h.pm.below hb, h.oz.below hb, h.vn, h.qn, h.ne⟩
theorem MkSt.alloc {w : World} {B : Nat} {v q : Value} {gs : Nat → Nat} {k n : Nat} {cs : List Int} (h : MkSt w B v q gs k n cs) (o : Obj) : MkSt (w.alloc o) B v q gs k n cs := h.below ((Below.refl _ _).alloc (Nat.le_refl _) o)
theorem MkSt.form {w : World} {B : Nat} {v q : Value} {gs : Nat → Nat} {k n : Nat} {cs : List Int} (h : MkSt w B v q gs k n cs) : (∃ p c, v = .slice (some ⟨p, 0, none⟩) k c ∧ k ≤ c) ∧ ∃ r c, q = .slice (some ⟨r, 0, none⟩) cs.length c ∧ cs.length ≤ c := by
  constructor
  · rcases h.pm.own.2 with ⟨e, _⟩ | ⟨g, cap, cur, e, _, _, hn, _⟩
    · exact absurd e h.vn
    · exact ⟨g, cap, e, hn⟩
  · rcases h.oz.2 with ⟨e, _⟩ | ⟨g, cap, cur, e, _, _, hn, _⟩
    · exact absurd e h.qn
    · exact ⟨g, cap, e, hn⟩
theorem MkSt.row {w w' : World} {B : Nat} {v v' q : Value} {gs : Nat → Nat} {k n : Nat} {cs : List Int} (o : Obj) (h : MkSt w B v q gs k n cs) (hB : B ≤ w.heap.size) (hg : ((w.alloc (.cells (madeCells #[.int .i64 0] n) 3)).alloc o).grownBy w' v.ownBlock)
    (hown : w'.ownsRow B 26 1 v' (k + 1) ((List.range k).map (fun i => Value.slice (some ⟨gs i, 0, none⟩) n n) ++ [.slice (some ⟨w.heap.size, 0, none⟩) n n])) (hn : v ≠ .slice none 0 0 → v' ≠ .slice none 0 0)
    (hat : v'.ownBlock = v.ownBlock ∨ v'.ownBlock = some ((w.alloc (.cells (madeCells #[.int .i64 0] n) 3)).alloc o).heap.size) : ∃ gs', MkSt w' B v' q gs' (k + 1) n cs := by
  have hb : Below w.heap.size w ((w.alloc (.cells (madeCells #[.int .i64 0] n) 3)).alloc o) := ((Below.refl _ _).alloc (Nat.le_refl _) _).alloc (by simp) _
  have hrow : OwnI ((w.alloc (.cells (madeCells #[.int .i64 0] n) 3)).alloc o) w.heap.size n (fun _ => 0) := rowIs_below (OwnI.made w n) ((Below.refl _ _).alloc (Nat.le_refl _) _)
  have hq : ∀ b, q.ownBlock = some b → b < w.heap.size := fun b e => (World.ownsRow.lt h.oz b e).2
  have hv : ∀ b, v.ownBlock = some b → b < w.heap.size := fun b e => (h.pm.own.lt b e).2
  refine ⟨_, (h.pm.below hb).more hg hown hat hrow (fun e => by have := hv _ e; omega) (fun e => by have := hq _ e; omega) (fun i hi e => by have := (h.pm.row i hi).lt; omega) hB, ?_, hn h.vn, h.qn, fun b e e' => ?_⟩
  · exact ownsRow_grown (h.oz.below hb) hg (fun b e e' => h.ne b e' e)
  · rcases hat with h1 | h1
    · rw [h1] at e; exact h.ne b e e'
    · rw [h1] at e
      have h2 := hq b e'
      have h3 : _ = b := Option.some.inj e
      simp at h3; omega
theorem MkSt.cost {w w' : World} {B : Nat} {v q q' : Value} {gs : Nat → Nat} {k n : Nat} {cs cs' : List Int} (o : Obj) (h : MkSt w B v q gs k n cs) (hg : (w.alloc o).grownBy w' q.ownBlock) (hown : OwnZ w' B q' cs') (hn : q' ≠ .slice none 0 0)
    (hat : q'.ownBlock = q.ownBlock ∨ q'.ownBlock = some (w.alloc o).heap.size) : MkSt w' B v q' gs k n cs' := by
  have hv : ∀ b, v.ownBlock = some b → b < w.heap.size := fun b e => (h.pm.own.lt b e).2
  refine ⟨((h.alloc o).pm.other hg h.ne hat), hown, h.vn, hn, fun b e e' => ?_⟩
  rcases hat with h1 | h1
  · rw [h1] at e'; exact h.ne b e e'
  · rw [h1] at e'
    have h2 := hv b e
    have h3 : _ = b := Option.some.inj e'
    simp at h3; omega
theorem MkSt.start (w : World) (n : Nat) : MkSt ((w.alloc (.cells #[] 26)).alloc (.cells #[] 3)) w.heap.size (.slice (some ⟨w.heap.size, 0, none⟩) 0 0) (.slice (some ⟨w.heap.size + 1, 0, none⟩) 0 0) (fun _ => 0) 0 n [] := by
  refine ⟨⟨?_, fun i hi => by omega, fun i hi => by omega, fun i j hi => by omega, fun i hi => by omega⟩, ?_, by simp, by simp, fun b e e' => ?_⟩
  · exact ownsRow_below (World.ownsRow_lit w #[] 0 (Nat.le_refl _) (by decide) rfl) ((Below.refl _ _).alloc (Nat.le_refl _) _)
  · have := OwnZ.lit (w.alloc (.cells #[] 26)) w.heap.size (by simp)
    simpa using this
  · have h1 : w.heap.size = b := Option.some.inj e
    have h2 : w.heap.size + 1 = b := Option.some.inj e'
    omega
end Go.Proofs.YtnjpifaphmeepaaDoor
