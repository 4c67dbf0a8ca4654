/- Books in memory, read; walks of the laws' copy, equality, marks on books. -/
import Derived.Test.YtgggbapcpjfljaaDoorG19
namespace Go.Proofs.YtgggbapcpjfljaaDoor
open Go Go.RowKit Go.Sort

/-- a book, read -/
structure RdB (w : World) (a1 a2 a3 : Option Addr) (b : Bk) : Prop where
  l : Legs w a1 b.first.legs
  d : Dds w a2 b.done
  u : Dds w a3 b.undone
theorem RdB.below {w w' : World} {a1 a2 a3 : Option Addr} {b : Bk} (h : RdB w a1 a2 a3 b) (hb : Below w.heap.size w w') : RdB w' a1 a2 a3 b := ⟨h.l.below hb, h.d.below hb, h.u.below hb⟩
theorem BkOwn.kr {w : World} {B : Nat} {a1 a2 a3 : Option Addr} {n1 n2 n3 c1 c2 c3 : Nat} {b : Bk} (h : BkOwn w B (.slice a1 n1 c1) (.slice a2 n2 c2) (.slice a3 n3 c3) b) : RdB w a1 a2 a3 b := ⟨h.l.kr, h.d.kr, h.u.kr⟩
theorem BkOwn.alloc {w : World} {B : Nat} {v1 v2 v3 : Value} {b : Bk} (h : BkOwn w B v1 v2 v3 b) (o : Obj) : BkOwn (w.alloc o) B v1 v2 v3 b := h.below ((Below.refl _ _).alloc (Nat.le_refl _) o)

theorem toDdsE_any (a : Option Addr) (c : Nat) (l : List Dd) (w : World) (hl : l.length ≤ 1048576) (hs : Dds w a l) :
    Calls Tryd.prog 45 #[.slice a l.length c] w fun e w' => ∃ g, e = .returned (.slice (some ⟨g, 0, none⟩) l.length l.length) ∧ OwnD w' w.heap.size (.slice (some ⟨g, 0, none⟩) l.length l.length) l ∧ Below w.heap.size w w' :=
  (toDds_any a c l w hl hs).mono fun _ _ ⟨h1, h2, h3⟩ => ⟨_, h1, h2, h3⟩

theorem toBook_any (a1 a2 a3 : Option Addr) (c1 c2 c3 : Nat) (st : Int) (l : List Lg) (d u : List Dd) (w : World) (hl : l.length ≤ 1048576) (hd : d.length ≤ 1048576) (hu : u.length ≤ 1048576) (hs : RdB w a1 a2 a3 ⟨⟨st, l⟩, d, u⟩) :
    Calls Tryd.prog 18 #[.agg #[.int .i64 st, .slice a1 l.length c1, .slice a2 d.length c2, .slice a3 u.length c3]] w fun e w' => ∃ g1 g2 g3, e = .returned (.agg #[.int .i64 st, .slice (some ⟨g1, 0, none⟩) l.length l.length, .slice (some ⟨g2, 0, none⟩) d.length d.length, .slice (some ⟨g3, 0, none⟩) u.length u.length]) ∧
      BkOwn w' w.heap.size (.slice (some ⟨g1, 0, none⟩) l.length l.length) (.slice (some ⟨g2, 0, none⟩) d.length d.length) (.slice (some ⟨g3, 0, none⟩) u.length u.length) ⟨⟨st, l⟩, d, u⟩ ∧ Below w.heap.size w w' := by
  obtain ⟨X, hX⟩ : ∃ X, w.heap.size = X := ⟨_, rfl⟩
  obtain ⟨W, hW⟩ : ∃ W, W = ((w.alloc (.cells #[.int .i64 st, .slice a1 l.length c1, .slice a2 d.length c2, .slice a3 u.length c3] 45)).alloc (.cells #[.int .i64 0, .slice none 0 0, .slice none 0 0, .slice none 0 0] 50)).alloc (.cells #[.int .i64 0, .slice none 0 0, .slice none 0 0, .slice none 0 0] 50) := ⟨_, rfl⟩
  have A0 : At W X [.int .i64 st, .slice a1 l.length c1, .slice a2 d.length c2, .slice a3 u.length c3] := by rw [hW]; exact ((At.new _ _ _ hX.symm rfl).alloc _).alloc _
  have R0 : At W (X + 1) [.int .i64 0, .slice none 0 0, .slice none 0 0, .slice none 0 0] := by rw [hW]; exact (At.new _ _ _ (by simp [hX]) rfl).alloc _
  have Z0 : At W (X + 1 + 1) [.int .i64 0, .slice none 0 0, .slice none 0 0, .slice none 0 0] := by rw [hW]; exact At.new _ _ _ (by simp [hX]) rfl
  have bW : Below w.heap.size w W := by rw [hW]; exact (by repeat (first | with_reducible assumption | exact Below.refl _ _ | refine below_drewN ?_ _ | refine Below.drew ?_ | refine Below.alloc ?_ (by first | omega | (simp; done) | (simp; omega)) _ | refine Below.setCell ?_ (by first | omega | (simp; done) | (simp; omega)) _))
  go_enter Tryd.func18, Tryd.ntmps18
  go_wp2_with fail
  rw [← hW]
  have sW := Z0.lt
  clear hW
  refine (toSurvey_any _ _ st l _ hl (hs.l.below bW)).mono ?_
  rintro e w1 ⟨g1, rfl, o1, c1⟩
  replace A0 := A0.below c1
  replace R0 := R0.below c1
  replace Z0 := Z0.below c1
  replace bW := bW.trans (c1.mono bW.size)
  clear c1
  obtain ⟨z0, z1, z2, z3, z4, z5⟩ := Z0.facts4
  obtain ⟨q0, q1, q2, q3, q4, -⟩ := A0.facts4
  have hX2 : X ≠ X + 1 + 1 := by omega
  have hX3 : X + 1 ≠ X + 1 + 1 := by omega
  go_wp2_with fail
  replace A0 := (A0.setOther (p := ⟨X + 1 + 1, 0, none⟩) hX2 (.int .i64 st)).setOther (p := ⟨X + 1 + 1, 1, none⟩) hX2 (.slice (some ⟨g1, 0, none⟩) l.length l.length)
  replace R0 := (R0.setOther (p := ⟨X + 1 + 1, 0, none⟩) hX3 (.int .i64 st)).setOther (p := ⟨X + 1 + 1, 1, none⟩) hX3 (.slice (some ⟨g1, 0, none⟩) l.length l.length)
  replace Z0 := (Z0.set 0 (.int .i64 st)).set 1 (.slice (some ⟨g1, 0, none⟩) l.length l.length)
  replace o1 := (o1.setCell (p := ⟨X + 1 + 1, 0, none⟩) sW (.int .i64 st)).setCell (p := ⟨X + 1 + 1, 1, none⟩) sW (.slice (some ⟨g1, 0, none⟩) l.length l.length)
  replace bW := (bW.setCell (p := ⟨X + 1 + 1, 0, none⟩) (by show _ ≤ X + 1 + 1; omega) (.int .i64 st)).setCell (p := ⟨X + 1 + 1, 1, none⟩) (by show _ ≤ X + 1 + 1; omega) (.slice (some ⟨g1, 0, none⟩) l.length l.length)
  clear z0 z1 z2 z3 z4 z5 q0 q1 q2 q3 q4
  generalize (w1.setCell ⟨X + 1 + 1, 0, none⟩ (.int .i64 st)).setCell ⟨X + 1 + 1, 1, none⟩ (.slice (some ⟨g1, 0, none⟩) l.length l.length) = W2 at A0 R0 Z0 o1 bW ⊢
  refine (toDdsE_any _ _ d _ hd (hs.d.below bW)).mono ?_
  rintro e w3 ⟨g2, rfl, o2, c3⟩
  replace A0 := A0.below c3
  replace R0 := R0.below c3
  replace Z0 := Z0.below c3
  have n12 : ∀ k, (Value.slice (some ⟨g1, 0, none⟩) l.length l.length).ownBlock = some k → (Value.slice (some ⟨g2, 0, none⟩) d.length d.length).ownBlock ≠ some k := fun k h1 h2 => by have := (o1.lt h1).2; have := (o2.lt h2).1; omega
  have s2 : X + 1 + 1 < W2.heap.size := by have := (o1.lt (k := g1) rfl).1; have := (o1.lt (k := g1) rfl).2; omega
  have hB2 : W.heap.size ≤ W2.heap.size := by have := (o1.lt (k := g1) rfl).1; have := (o1.lt (k := g1) rfl).2; omega
  replace o1 := o1.below c3
  replace bW := bW.trans (c3.mono bW.size)
  clear c3
  obtain ⟨z0, z1, z2, z3, z4, z5⟩ := Z0.facts4
  obtain ⟨q0, q1, q2, q3, q4, -⟩ := A0.facts4
  go_wp2_with fail
  replace A0 := A0.setOther (p := ⟨X + 1 + 1, 2, none⟩) hX2 (.slice (some ⟨g2, 0, none⟩) d.length d.length)
  replace R0 := R0.setOther (p := ⟨X + 1 + 1, 2, none⟩) hX3 (.slice (some ⟨g2, 0, none⟩) d.length d.length)
  replace Z0 := Z0.set 2 (.slice (some ⟨g2, 0, none⟩) d.length d.length)
  replace o1 := o1.setCell (p := ⟨X + 1 + 1, 2, none⟩) sW (.slice (some ⟨g2, 0, none⟩) d.length d.length)
  replace o2 := o2.setCell (p := ⟨X + 1 + 1, 2, none⟩) s2 (.slice (some ⟨g2, 0, none⟩) d.length d.length)
  replace bW := bW.setCell (p := ⟨X + 1 + 1, 2, none⟩) (by show _ ≤ X + 1 + 1; omega) (.slice (some ⟨g2, 0, none⟩) d.length d.length)
  clear z0 z1 z2 z3 z4 z5 q0 q1 q2 q3 q4
  generalize w3.setCell ⟨X + 1 + 1, 2, none⟩ (.slice (some ⟨g2, 0, none⟩) d.length d.length) = W4 at A0 R0 Z0 o1 o2 bW ⊢
  refine (toDdsE_any _ _ u _ hu (hs.u.below bW)).mono ?_
  rintro e w5 ⟨g3, rfl, o3, c5⟩
  replace R0 := R0.below c5
  replace Z0 := Z0.below c5
  have n13 : ∀ k, (Value.slice (some ⟨g1, 0, none⟩) l.length l.length).ownBlock = some k → (Value.slice (some ⟨g3, 0, none⟩) u.length u.length).ownBlock ≠ some k := fun k h1 h2 => by have := (o1.lt h1).2; have := (o3.lt h2).1; omega
  have n23 : ∀ k, (Value.slice (some ⟨g2, 0, none⟩) d.length d.length).ownBlock = some k → (Value.slice (some ⟨g3, 0, none⟩) u.length u.length).ownBlock ≠ some k := fun k h1 h2 => by have := (o2.lt h1).2; have := (o3.lt h2).1; omega
  have s4 : X + 1 + 1 < W4.heap.size := by have := (o2.lt (k := g2) rfl).1; have := (o2.lt (k := g2) rfl).2; omega
  have hB4 : W.heap.size ≤ W4.heap.size := by have := (o2.lt (k := g2) rfl).1; have := (o2.lt (k := g2) rfl).2; omega
  replace o1 := o1.below c5
  replace o2 := o2.below c5
  have hwX : w.heap.size ≤ X := by omega
  replace bW := bW.trans (c5.mono bW.size)
  clear c5 A0
  have hX4 : X + 1 + 1 ≠ X + 1 := by omega
  obtain ⟨z0, z1, z2, z3, z4, z5⟩ := Z0.facts4
  obtain ⟨r0, r1, r2, r3, r4, r5⟩ := R0.facts4
  go_wp2_with fail
  have BO : BkOwn w5 W.heap.size (.slice (some ⟨g1, 0, none⟩) l.length l.length) (.slice (some ⟨g2, 0, none⟩) d.length d.length) (.slice (some ⟨g3, 0, none⟩) u.length u.length) ⟨⟨st, l⟩, d, u⟩ :=
    ⟨o1, o2.mono hB2, o3.mono hB4, n12, n13, n23⟩
  refine bodyPost_ret (v := .agg #[.int .i64 st, .slice (some ⟨g1, 0, none⟩) l.length l.length, .slice (some ⟨g2, 0, none⟩) d.length d.length, .slice (some ⟨g3, 0, none⟩) u.length u.length]) (by simp [results, Tryd.results18, go_sem, r1, r2, r3, r4]) rfl ⟨g1, g2, g3, rfl, ?_, ?_⟩
  · refine BkOwn.mono (B := W.heap.size) ?_ (by omega)
    repeat (first | with_reducible exact BO | refine BkOwn.setCell ?_ (by show _ < W.heap.size; simp only; omega) _)
  · exact (by repeat (first | with_reducible assumption | with_reducible exact Below.refl _ _ | with_reducible refine Below.setCell ?_ (by first | omega | (simp; done) | (simp; omega)) _ | with_reducible refine Below.alloc ?_ (by first | omega | (simp; done) | (simp; omega)) _ | with_reducible refine Below.drew ?_))

theorem own_slice (a : Option Addr) (n c n' c' : Nat) : (Value.slice a n c).ownBlock = (Value.slice a n' c').ownBlock := by
  cases a <;> rfl

theorem markSurveyW_any (B : Nat) (a : Option Addr) (c : Nat) (st : Int) (l : List Lg) (k : Int) (w : World) (hl : l.length ≤ 1048580) (hk0 : 0 ≤ k) (hk : k ≤ 100000000) (ho : OwnL w B (.slice a l.length c) l) :
    Calls Tryd.prog 26 #[.agg #[.int .i64 st, .slice a l.length c], .int .i64 k] w fun e w' => e = .returned (.int .i64 (k + 5 * (l.length : Int))) ∧ OwnL w' B (.slice a l.length c) (marks k l.length) ∧ Wr (fun j => (Value.slice a l.length c).ownBlock = some j) w w' :=
  (markSurvey_any B a c st l k w hl hk0 hk ho).mono fun _ _ ⟨h1, h2, h3⟩ => ⟨h1, h2, .ofGrown h3 fun _ hj => (own_slice _ _ _ _ _).trans hj⟩

theorem svOk_len {s : Sv} (h : svOk s = true) : s.legs.length ≤ 9 := (svOk_iff.1 h).2.2.1
theorem ddDo_len (s : Sv) (d : Dd) : (ddDo s d).1.legs.length ≤ 9 := by
  cases h : svOk s
  · rw [ddDo_bad h]; exact Nat.zero_le _
  · exact svOk_len (ddDo_valid h)

theorem eqBook_any (a1 a2 a3 a1' a2' a3' : Option Addr) (c1 c2 c3 c1' c2' c3' : Nat) (st : Int) (l : List Lg) (d u : List Dd) (w : World) (hl : l.length ≤ 1048580) (hd : d.length ≤ 1048580) (hu : u.length ≤ 1048580) (h1 : RdB w a1 a2 a3 ⟨⟨st, l⟩, d, u⟩) (h2 : RdB w a1' a2' a3' ⟨⟨st, l⟩, d, u⟩) :
    Calls Tryd.prog 20 #[.agg #[.int .i64 st, .slice a1 l.length c1, .slice a2 d.length c2, .slice a3 u.length c3], .agg #[.int .i64 st, .slice a1' l.length c1', .slice a2' d.length c2', .slice a3' u.length c3']] w fun e w' => e = .returned (.bool true) ∧ Below w.heap.size w w' := by
  obtain ⟨X, hX⟩ : ∃ X, w.heap.size = X := ⟨_, rfl⟩
  obtain ⟨W, hW⟩ : ∃ W, W = (w.alloc (.cells #[.int .i64 st, .slice a1 l.length c1, .slice a2 d.length c2, .slice a3 u.length c3] 50)).alloc (.cells #[.int .i64 st, .slice a1' l.length c1', .slice a2' d.length c2', .slice a3' u.length c3'] 50) := ⟨_, rfl⟩
  have A0 : At W X [.int .i64 st, .slice a1 l.length c1, .slice a2 d.length c2, .slice a3 u.length c3] := by rw [hW]; exact (At.new _ _ _ hX.symm rfl).alloc _
  have R0 : At W (X + 1) [.int .i64 st, .slice a1' l.length c1', .slice a2' d.length c2', .slice a3' u.length c3'] := by rw [hW]; exact At.new _ _ _ (by simp [hX]) rfl
  have bW : Below w.heap.size w W := by rw [hW]; exact (by repeat (first | with_reducible assumption | exact Below.refl _ _ | refine below_drewN ?_ _ | refine Below.drew ?_ | refine Below.alloc ?_ (by first | omega | (simp; done) | (simp; omega)) _ | refine Below.setCell ?_ (by first | omega | (simp; done) | (simp; omega)) _))
  go_enter Tryd.func20, Tryd.ntmps20
  go_wp2_with fail
  rw [← hW]
  clear hW
  refine (eqSurvey_any _ _ _ _ st l _ hl (h1.l.below bW) (h2.l.below bW)).mono ?_
  rintro e w1 ⟨rfl, k1⟩
  replace A0 := A0.below k1
  replace R0 := R0.below k1
  replace bW := bW.trans (k1.mono bW.size)
  clear k1
  obtain ⟨z0, z1, z2, z3, z4, -⟩ := A0.facts4
  obtain ⟨q0, q1, q2, q3, q4, -⟩ := R0.facts4
  go_wp2_with fail
  refine (eqDds_any _ _ _ _ d _ hd (h1.d.below bW) (h2.d.below bW)).mono ?_
  rintro e w2 ⟨rfl, k2⟩
  replace A0 := A0.below k2
  replace R0 := R0.below k2
  replace bW := bW.trans (k2.mono bW.size)
  clear k2 z0 z1 z2 z3 z4 q0 q1 q2 q3 q4
  obtain ⟨z0, z1, z2, z3, z4, -⟩ := A0.facts4
  obtain ⟨q0, q1, q2, q3, q4, -⟩ := R0.facts4
  go_wp2_with fail
  refine (eqDds_any _ _ _ _ u _ hu (h1.u.below bW) (h2.u.below bW)).mono ?_
  rintro e w3 ⟨rfl, k3⟩
  replace bW := bW.trans (k3.mono bW.size)
  clear k3 z0 z1 z2 z3 z4 q0 q1 q2 q3 q4 A0 R0
  go_wp2_with fail
  go_ret
  exact ⟨rfl, bW⟩

/-- a book, all of it marked -/
def bkMark (k : Int) (b : Bk) : Bk := ⟨⟨b.first.st, marks k b.first.legs.length⟩, marksD (k + 5 * (b.first.legs.length : Int)) b.done.length, marksD (k + 5 * (b.first.legs.length : Int) + 7 * (b.done.length : Int)) b.undone.length⟩


/-! ### what a region leaves: a box of the call's own, and what it tells of -/
theorem BkOwn.setOther {w : World} {B : Nat} {v1 v2 v3 : Value} {b : Bk} (h : BkOwn w B v1 v2 v3 b) {p : Addr} (hp : ¬ bkBlk v1 v2 v3 p.block) (u : Value) : BkOwn (w.setCell p u) B v1 v2 v3 b :=
  ⟨h.l.setOther (fun e => hp (.inl e)) u, h.d.setOther (fun e => hp (.inr (.inl e))) u, h.u.setOther (fun e => hp (.inr (.inr e))) u, h.ne12, h.ne13, h.ne23⟩
def BoxS (V : World) (s : Sv) (p : Value) (w : World) : Prop := ∃ g a c, p = .pointer (some ⟨g, 0, none⟩) ∧ V.heap.size ≤ g ∧ At w g [.int .i64 s.st, .slice a s.legs.length c] ∧ OwnL w V.heap.size (.slice a s.legs.length c) s.legs ∧
  (∀ k, (Value.slice a s.legs.length c).ownBlock = some k → k ≠ g) ∧ Below V.heap.size V w
theorem boxS_new {V w : World} {s : Sv} {a : Option Addr} {c B : Nat} {T : TypeId} (o : OwnL w B (.slice a s.legs.length c) s.legs) (hB : V.heap.size ≤ B) (b : Below V.heap.size V w) :
    BoxS V s (.pointer (some ⟨w.heap.size, 0, none⟩)) (w.alloc (.cells #[.int .i64 s.st, .slice a s.legs.length c] T)) :=
  ⟨_, a, c, rfl, b.size, At.new _ _ _ rfl rfl, (o.alloc _).mono hB, fun k hk => by have := (o.lt hk).2; omega, b.alloc b.size _⟩
theorem boxS_old {V w : World} {s : Sv} {a : Option Addr} {c B g : Nat} {u0 u1 : Value} (A : At w g [u0, u1]) (hV : V.heap.size ≤ g) (o : OwnL w B (.slice a s.legs.length c) s.legs) (hB : V.heap.size ≤ B) (hg : g < B) (b : Below V.heap.size V w) :
    BoxS V s (.pointer (some ⟨g, 0, none⟩)) ((w.setCell ⟨g, 0, none⟩ (.int .i64 s.st)).setCell ⟨g, 1, none⟩ (.slice a s.legs.length c)) :=
  ⟨_, a, c, rfl, hV, A.sets2 _ _, ((o.setCell (p := ⟨g, 0, none⟩) hg _).setCell (p := ⟨g, 1, none⟩) hg _).mono hB, fun k hk => by have := (o.lt hk).1; omega, (b.setCell (p := ⟨g, 0, none⟩) hV _).setCell (p := ⟨g, 1, none⟩) hV _⟩
def BoxB (V : World) (b : Bk) (p : Value) (w : World) : Prop := ∃ g a1 a2 a3 c1 c2 c3, p = .pointer (some ⟨g, 0, none⟩) ∧ V.heap.size ≤ g ∧ At w g [.int .i64 b.first.st, .slice a1 b.first.legs.length c1, .slice a2 b.done.length c2, .slice a3 b.undone.length c3] ∧
  BkOwn w V.heap.size (.slice a1 b.first.legs.length c1) (.slice a2 b.done.length c2) (.slice a3 b.undone.length c3) b ∧ (∀ k, bkBlk (.slice a1 b.first.legs.length c1) (.slice a2 b.done.length c2) (.slice a3 b.undone.length c3) k → k ≠ g) ∧ Below V.heap.size V w
theorem boxB_new {V w : World} {b : Bk} {a1 a2 a3 : Option Addr} {c1 c2 c3 B : Nat} {T : TypeId} (o : BkOwn w B (.slice a1 b.first.legs.length c1) (.slice a2 b.done.length c2) (.slice a3 b.undone.length c3) b) (hB : V.heap.size ≤ B) (hb : Below V.heap.size V w) :
    BoxB V b (.pointer (some ⟨w.heap.size, 0, none⟩)) (w.alloc (.cells #[.int .i64 b.first.st, .slice a1 b.first.legs.length c1, .slice a2 b.done.length c2, .slice a3 b.undone.length c3] T)) :=
  ⟨_, a1, a2, a3, c1, c2, c3, rfl, hb.size, At.new _ _ _ rfl rfl, (o.alloc _).mono hB, fun k hk => by have := (o.blk hk).2; omega, hb.alloc hb.size _⟩
theorem boxB_old {V w : World} {b : Bk} {a1 a2 a3 : Option Addr} {c1 c2 c3 B g : Nat} {u0 u1 u2 u3 : Value} (A : At w g [u0, u1, u2, u3]) (hV : V.heap.size ≤ g) (o : BkOwn w B (.slice a1 b.first.legs.length c1) (.slice a2 b.done.length c2) (.slice a3 b.undone.length c3) b) (hB : V.heap.size ≤ B) (hg : g < B) (hb : Below V.heap.size V w) :
    BoxB V b (.pointer (some ⟨g, 0, none⟩)) ((((w.setCell ⟨g, 0, none⟩ (.int .i64 b.first.st)).setCell ⟨g, 1, none⟩ (.slice a1 b.first.legs.length c1)).setCell ⟨g, 2, none⟩ (.slice a2 b.done.length c2)).setCell ⟨g, 3, none⟩ (.slice a3 b.undone.length c3)) :=
  ⟨_, a1, a2, a3, c1, c2, c3, rfl, hV, A.sets4 _ _ _ _, ((((o.setCell (p := ⟨g, 0, none⟩) hg _).setCell (p := ⟨g, 1, none⟩) hg _).setCell (p := ⟨g, 2, none⟩) hg _).setCell (p := ⟨g, 3, none⟩) hg _).mono hB, fun k hk => by have := (o.blk hk).1; omega,
    (((hb.setCell (p := ⟨g, 0, none⟩) hV _).setCell (p := ⟨g, 1, none⟩) hV _).setCell (p := ⟨g, 2, none⟩) hV _).setCell (p := ⟨g, 3, none⟩) hV _⟩
end Go.Proofs.YtgggbapcpjfljaaDoor
