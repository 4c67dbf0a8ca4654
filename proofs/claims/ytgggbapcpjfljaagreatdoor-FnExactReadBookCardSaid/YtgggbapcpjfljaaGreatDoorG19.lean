/- Books in memory; walks of the laws' helpers on books: size, copy, equality, marks, and that marks are held. -/
import Derived.Test.YtgggbapcpjfljaaGreatDoorG18
namespace Go.Proofs.YtgggbapcpjfljaaGreatDoor
open Go Go.RowKit Go.Sort

/-! ### a block of the call's own, cell by cell -/
structure At (w : World) (X : Nat) (vs : List Value) : Prop where
  lt : X < w.heap.size
  c : ∀ j v, vs[j]? = some v → w.cell? ⟨X, j, none⟩ = some v
  f : ∀ j, w.frozen? ⟨X, j, none⟩ = false
section
variable {w w' : World} {X : Nat} {vs : List Value}
theorem At.belowB {B : Nat} (h : At w X vs) (hb : Below B w w') (hX : X < B) : At w' X vs :=
  ⟨Nat.lt_of_lt_of_le h.lt hb.size, fun j v hv => (hb.cell (p := ⟨X, j, none⟩) hX).trans (h.c j v hv), fun j => (hb.frozen (p := ⟨X, j, none⟩) hX).trans (h.f j)⟩
theorem At.below (h : At w X vs) (hb : Below w.heap.size w w') : At w' X vs := h.belowB hb h.lt
theorem At.alloc (h : At w X vs) (o : Obj) : At (w.alloc o) X vs := h.below ((Below.refl _ _).alloc (Nat.le_refl _) o)
theorem At.drew (h : At w X vs) : At w.drew X vs := h.below ((Below.refl _ _).drew)
theorem At.new (w : World) (cs : Array Value) (T : TypeId) (hX : X = w.heap.size) (hv : cs.toList = vs) : At (w.alloc (.cells cs T)) X vs := by
  subst hX hv
  have e : (w.alloc (.cells cs T)).heap[w.heap.size]? = some (.cells cs T (0, 0)) := Deep.blk_alloc_new _ _
  refine ⟨by simp, fun j v hj => ?_, fun j => World.frozen?_alloc_new _ _ _ _⟩
  unfold World.cell?
  simp only [e]
  simpa using hj
theorem At.set (h : At w X vs) (j : Nat) (v : Value) : At (w.setCell ⟨X, j, none⟩ v) X (vs.set j v) := by
  refine ⟨by simpa [World.setCell] using h.lt, fun i u hu => ?_, fun i => by rw [World.frozen?_setCell]; exact h.f i⟩
  rw [List.getElem?_set] at hu
  split at hu
  · rename_i e; subst e
    split at hu
    · rename_i hl; cases hu
      exact World.cell?_setCell_same _ _ _ (h.c _ _ (List.getElem?_eq_getElem hl))
    · cases hu
  · rename_i e
    rw [World.cell?_setCell_other _ _ _ _ (by intro e'; injection e' with _ e2; exact e e2)]
    exact h.c i u hu
theorem At.setOther (h : At w X vs) {p : Addr} (hp : X ≠ p.block) (v : Value) : At (w.setCell p v) X vs :=
  ⟨by simpa [World.setCell] using h.lt, fun i u hu => by rw [World.cell?_setCell_other _ _ _ _ (by intro e; exact hp (by rw [e]))]; exact h.c i u hu, fun i => by rw [World.frozen?_setCell]; exact h.f i⟩
theorem At.block (h : At w X vs) (hb : w'.heap[X]? = w.heap[X]?) : At w' X vs := by
  have hl : X < w'.heap.size := by
    have h1 : (w.heap[X]?).isSome = true := by rw [Array.getElem?_eq_getElem h.lt]; rfl
    rw [← hb] at h1
    apply Nat.lt_of_not_le
    intro hle
    rw [Array.getElem?_eq_none hle] at h1
    cases h1
  exact ⟨hl, fun j v hv => (World.cell?_of_block (w := w) (a := ⟨X, j, none⟩) hb).trans (h.c j v hv), fun j => (World.frozen?_of_block (w := w) (a := ⟨X, j, none⟩) hb).trans (h.f j)⟩
theorem At.sets2 {u0 u1 : Value} (h : At w X [u0, u1]) (a b : Value) : At ((w.setCell ⟨X, 0, none⟩ a).setCell ⟨X, 1, none⟩ b) X [a, b] := (h.set 0 a).set 1 b
theorem At.sets4 {u0 u1 u2 u3 : Value} (h : At w X [u0, u1, u2, u3]) (a b c d : Value) : At ((((w.setCell ⟨X, 0, none⟩ a).setCell ⟨X, 1, none⟩ b).setCell ⟨X, 2, none⟩ c).setCell ⟨X, 3, none⟩ d) X [a, b, c, d] := (((h.set 0 a).set 1 b).set 2 c).set 3 d
theorem At.sets7 {u0 u1 u2 u3 u4 u5 u6 : Value} (h : At w X [u0, u1, u2, u3, u4, u5, u6]) (a b c d e f g : Value) :
    At (((((((w.setCell ⟨X, 0, none⟩ a).setCell ⟨X, 1, none⟩ b).setCell ⟨X, 2, none⟩ c).setCell ⟨X, 3, none⟩ d).setCell ⟨X, 4, none⟩ e).setCell ⟨X, 5, none⟩ f).setCell ⟨X, 6, none⟩ g) X [a, b, c, d, e, f, g] := ((((((h.set 0 a).set 1 b).set 2 c).set 3 d).set 4 e).set 5 f).set 6 g
theorem At.born {W : World} {cs : Array Value} {T : TypeId} (c : Below (W.alloc (.cells cs T)).heap.size (W.alloc (.cells cs T)) w') : At w' W.heap.size cs.toList := (At.new W cs T rfl rfl).below c
theorem At.bornD {W : World} {cs : Array Value} {T : TypeId} (c : Below (W.alloc (.cells cs T)).drew.heap.size (W.alloc (.cells cs T)).drew w') : At w' W.heap.size cs.toList := (At.new W cs T rfl rfl).drew.below c
theorem At.facts2 {a b : Value} (h : At w X [a, b]) : X < w.heap.size ∧ w.cell? ⟨X, 0, none⟩ = some a ∧ w.cell? ⟨X, 1, none⟩ = some b ∧ ∀ j, w.frozen? ⟨X, j, none⟩ = false := ⟨h.lt, h.c 0 _ rfl, h.c 1 _ rfl, h.f⟩
theorem At.facts4 {a b c d : Value} (h : At w X [a, b, c, d]) : X < w.heap.size ∧ w.cell? ⟨X, 0, none⟩ = some a ∧ w.cell? ⟨X, 1, none⟩ = some b ∧ w.cell? ⟨X, 2, none⟩ = some c ∧ w.cell? ⟨X, 3, none⟩ = some d ∧ ∀ j, w.frozen? ⟨X, j, none⟩ = false :=
  ⟨h.lt, h.c 0 _ rfl, h.c 1 _ rfl, h.c 2 _ rfl, h.c 3 _ rfl, h.f⟩
theorem At.facts7 {a b c d e f g : Value} (h : At w X [a, b, c, d, e, f, g]) : X < w.heap.size ∧ w.cell? ⟨X, 0, none⟩ = some a ∧ w.cell? ⟨X, 1, none⟩ = some b ∧ w.cell? ⟨X, 2, none⟩ = some c ∧ w.cell? ⟨X, 3, none⟩ = some d ∧ w.cell? ⟨X, 4, none⟩ = some e ∧ w.cell? ⟨X, 5, none⟩ = some f ∧ w.cell? ⟨X, 6, none⟩ = some g ∧ ∀ j, w.frozen? ⟨X, j, none⟩ = false :=
  ⟨h.lt, h.c 0 _ rfl, h.c 1 _ rfl, h.c 2 _ rfl, h.c 3 _ rfl, h.c 4 _ rfl, h.c 5 _ rfl, h.c 6 _ rfl, h.f⟩
theorem At.two {a b : Value} (h : At w X [a, b]) : X < w.heap.size ∧ w.cell? ⟨X, 0, none⟩ = some a ∧ w.cell? ⟨X, 1, none⟩ = some b ∧ w.frozen? ⟨X, 0, none⟩ = false ∧ w.frozen? ⟨X, 1, none⟩ = false :=
  ⟨h.lt, h.c 0 _ rfl, h.c 1 _ rfl, h.f 0, h.f 1⟩
theorem At.four {a b c d : Value} (h : At w X [a, b, c, d]) : X < w.heap.size ∧ w.cell? ⟨X, 0, none⟩ = some a ∧ w.cell? ⟨X, 1, none⟩ = some b ∧ w.cell? ⟨X, 2, none⟩ = some c ∧ w.cell? ⟨X, 3, none⟩ = some d ∧
    w.frozen? ⟨X, 0, none⟩ = false ∧ w.frozen? ⟨X, 1, none⟩ = false ∧ w.frozen? ⟨X, 2, none⟩ = false ∧ w.frozen? ⟨X, 3, none⟩ = false :=
  ⟨h.lt, h.c 0 _ rfl, h.c 1 _ rfl, h.c 2 _ rfl, h.c 3 _ rfl, h.f 0, h.f 1, h.f 2, h.f 3⟩
theorem At.seven {a b c d e f g : Value} (h : At w X [a, b, c, d, e, f, g]) : X < w.heap.size ∧ w.cell? ⟨X, 0, none⟩ = some a ∧ w.cell? ⟨X, 1, none⟩ = some b ∧ w.cell? ⟨X, 2, none⟩ = some c ∧ w.cell? ⟨X, 3, none⟩ = some d ∧ w.cell? ⟨X, 4, none⟩ = some e ∧ w.cell? ⟨X, 5, none⟩ = some f ∧ w.cell? ⟨X, 6, none⟩ = some g :=
  ⟨h.lt, h.c 0 _ rfl, h.c 1 _ rfl, h.c 2 _ rfl, h.c 3 _ rfl, h.c 4 _ rfl, h.c 5 _ rfl, h.c 6 _ rfl⟩
/-- a slot that points to a block of the call's own -/
def Boxed (V : World) (vs : List Value) (p : Value) (w : World) : Prop := ∃ g, p = .pointer (some ⟨g, 0, none⟩) ∧ V.heap.size ≤ g ∧ At w g vs ∧ Below V.heap.size V w
end

/-! ### some blocks written, new blocks made -/
structure Wr (R : Nat → Prop) (w w' : World) : Prop where
  os : w'.os = w.os
  tape : w'.tape = w.tape
  output : w'.output = w.output
  size : w.heap.size ≤ w'.heap.size
  block : ∀ k, k < w.heap.size → ¬ R k → w'.heap[k]? = w.heap[k]?
section
variable {R : Nat → Prop} {w w' w'' : World}
theorem Wr.refl : Wr R w w := ⟨rfl, rfl, rfl, Nat.le_refl _, fun _ _ _ => rfl⟩
theorem Wr.trans (h : Wr R w w') (k : Wr R w' w'') : Wr R w w'' :=
  ⟨k.os.trans h.os, k.tape.trans h.tape, k.output.trans h.output, Nat.le_trans h.size k.size, fun i hi hr => (k.block i (Nat.lt_of_lt_of_le hi h.size) hr).trans (h.block i hi hr)⟩
theorem Wr.ofBelow (h : Below w.heap.size w w') : Wr R w w' := ⟨h.os, h.tape, h.output, h.size, fun k hk _ => h.block k hk⟩
theorem Wr.ofGrown {row : Option Nat} (h : w.grownBy w' row) (hr : ∀ k, row = some k → R k) : Wr R w w' := ⟨h.os, h.tape, h.output, h.size, fun k hk hn => h.block k hk fun e => hn (hr k e.symm)⟩
theorem Wr.below {B : Nat} (h : Wr R w w') (hB : B ≤ w.heap.size) (hr : ∀ k, R k → B ≤ k) : Below B w w' := ⟨h.os, h.tape, h.output, h.size, fun k hk => h.block k (by omega) fun e => by have := hr k e; omega⟩
theorem KOwn.wr {α : Type} {K : Kind α} [Inhabited α] {T : TypeId} {B : Nat} {v : Value} {xs : List α} (h : KOwn K T w B v xs) (hw : Wr R w w') (hr : ∀ k, v.ownBlock = some k → ¬ R k) : KOwn K T w' B v xs := by
  refine ⟨h.1, ?_⟩
  rcases h.2 with hn | ⟨g, cap, cur, e, hB, hg, r⟩
  · exact .inl hn
  · exact .inr ⟨g, cap, cur, e, hB, (hw.block g (Array.getElem?_eq_some_iff.1 hg).1 (hr g (by rw [e]; rfl))).trans hg, r⟩
end

/-! ### books -/
/-- a book of the call's own: its three lists lie in three blocks -/
structure BkOwn (w : World) (B : Nat) (v1 v2 v3 : Value) (b : Bk) : Prop where
  l : OwnL w B v1 b.first.legs
  d : OwnD w B v2 b.done
  u : OwnD w B v3 b.undone
  ne12 : ∀ k, v1.ownBlock = some k → v2.ownBlock ≠ some k
  ne13 : ∀ k, v1.ownBlock = some k → v3.ownBlock ≠ some k
  ne23 : ∀ k, v2.ownBlock = some k → v3.ownBlock ≠ some k
/-- the blocks of a book -/
def bkBlk (v1 v2 v3 : Value) (k : Nat) : Prop := v1.ownBlock = some k ∨ v2.ownBlock = some k ∨ v3.ownBlock = some k
section
variable {w w' : World} {B : Nat} {v1 v2 v3 : Value} {b : Bk}
theorem BkOwn.below (h : BkOwn w B v1 v2 v3 b) (hb : Below w.heap.size w w') : BkOwn w' B v1 v2 v3 b := ⟨h.l.below hb, h.d.below hb, h.u.below hb, h.ne12, h.ne13, h.ne23⟩
theorem BkOwn.mono (h : BkOwn w B v1 v2 v3 b) {B' : Nat} (hB : B' ≤ B) : BkOwn w B' v1 v2 v3 b := ⟨h.l.mono hB, h.d.mono hB, h.u.mono hB, h.ne12, h.ne13, h.ne23⟩
theorem BkOwn.blk (h : BkOwn w B v1 v2 v3 b) {k : Nat} (hk : bkBlk v1 v2 v3 k) : B ≤ k ∧ k < w.heap.size := by
  rcases hk with e | e | e
  · exact h.l.lt e
  · exact h.d.lt e
  · exact h.u.lt e
theorem BkOwn.setCell (h : BkOwn w B v1 v2 v3 b) {p : Addr} (hp : p.block < B) (u : Value) : BkOwn (w.setCell p u) B v1 v2 v3 b := ⟨h.l.setCell hp u, h.d.setCell hp u, h.u.setCell hp u, h.ne12, h.ne13, h.ne23⟩
theorem BkOwn.wr {R : Nat → Prop} (h : BkOwn w B v1 v2 v3 b) (hw : Wr R w w') (hr : ∀ k, bkBlk v1 v2 v3 k → ¬ R k) : BkOwn w' B v1 v2 v3 b :=
  ⟨h.l.wr hw fun k e => hr k (.inl e), h.d.wr hw fun k e => hr k (.inr (.inl e)), h.u.wr hw fun k e => hr k (.inr (.inr e)), h.ne12, h.ne13, h.ne23⟩
theorem BkOwn.forms (h : BkOwn w B v1 v2 v3 b) : ∃ a1 c1 a2 c2 a3 c3, v1 = .slice a1 b.first.legs.length c1 ∧ v2 = .slice a2 b.done.length c2 ∧ v3 = .slice a3 b.undone.length c3 := by
  obtain ⟨a1, c1, e1⟩ := h.l.sl
  obtain ⟨a2, c2, e2⟩ := h.d.sl
  obtain ⟨a3, c3, e3⟩ := h.u.sl
  exact ⟨a1, c1, a2, c2, a3, c3, e1, e2, e3⟩
end
/-- a book comes back, all of it the call's own -/
def BkRet (b : Bk) (w : World) (e : Ending) (w' : World) : Prop := ∃ v1 v2 v3, e = .returned (.agg #[.int .i64 b.first.st, v1, v2, v3]) ∧ BkOwn w' w.heap.size v1 v2 v3 b ∧ Below w.heap.size w w'
/-- a book and a truth come back -/
def BkOut (p : Bk × Bool) (w : World) (e : Ending) (w' : World) : Prop := ∃ v1 v2 v3, e = .returned (.tuple #[.agg #[.int .i64 p.1.first.st, v1, v2, v3], .bool p.2]) ∧ BkOwn w' w.heap.size v1 v2 v3 p.1 ∧ Below w.heap.size w w'

/-! ### size -/
def szB (n1 n2 n3 : Nat) (left : Int) : Int := if szL n1 left < 0 then -1 else if szL n2 (szL n1 left) < 0 then -1 else szL n3 (szL n2 (szL n1 left))
theorem szL_neg {n : Nat} {left : Int} (h : szL n left < 0) : szL n left = -1 := by
  unfold szL at h ⊢; split at h
  · rename_i h'; rw [if_pos h']
  · omega
theorem szB_le {n1 n2 n3 : Nat} {left : Int} (h : ¬ szB n1 n2 n3 left < 0) : (n1 : Int) + n2 + n3 ≤ left := by
  unfold szB at h
  split at h
  · omega
  rename_i h1
  split at h
  · omega
  rename_i h2
  obtain ⟨a1, a2⟩ := szL_le h1
  obtain ⟨a3, a4⟩ := szL_le h2
  obtain ⟨a5, a6⟩ := szL_le h
  omega
end Go.Proofs.YtgggbapcpjfljaaGreatDoor
