/- Books in memory, read; walks of the laws' copy, equality, marks on books. -/
import Derived.Test.YtgggbapcpjfljaaGreatDoorG19
namespace Go.Proofs.YtgggbapcpjfljaaGreatDoor
open Go Go.RowKit Go.Sort

/-- a book, read -/
structure RdB (w : World) (a1 a2 a3 : Option Addr) (b : Bk) : Prop where
  l : Legs w a1 b.first.legs
  d : Dds w a2 b.done
  u : Dds w a3 b.undone
theorem RdB.below {w w' : World} {a1 a2 a3 : Option Addr} {b : Bk} (h : RdB w a1 a2 a3 b) (hb : Below w.heap.size w w') : RdB w' a1 a2 a3 b := ⟨h.l.below hb, h.d.below hb, h.u.below hb⟩
theorem BkOwn.kr {w : World} {B : Nat} {a1 a2 a3 : Option Addr} {n1 n2 n3 c1 c2 c3 : Nat} {b : Bk} (h : BkOwn w B (.slice a1 n1 c1) (.slice a2 n2 c2) (.slice a3 n3 c3) b) : RdB w a1 a2 a3 b := ⟨h.l.kr, h.d.kr, h.u.kr⟩
theorem BkOwn.alloc {w : World} {B : Nat} {v1 v2 v3 : Value} {b : Bk} (h : BkOwn w B v1 v2 v3 b) (o : Obj) : BkOwn (w.alloc o) B v1 v2 v3 b := h.below ((Below.refl _ _).alloc (Nat.le_refl _) o)

theorem own_slice (a : Option Addr) (n c n' c' : Nat) : (Value.slice a n c).ownBlock = (Value.slice a n' c').ownBlock := by
  cases a <;> rfl

theorem markSurveyW_any (B : Nat) (a : Option Addr) (c : Nat) (st : Int) (l : List Lg) (k : Int) (w : World) (hl : l.length ≤ 1048580) (hk0 : 0 ≤ k) (hk : k ≤ 100000000) (ho : OwnL w B (.slice a l.length c) l) :
    Calls Tryz.prog 21 #[.agg #[.int .i64 st, .slice a l.length c], .int .i64 k] w fun e w' => e = .returned (.int .i64 (k + 5 * (l.length : Int))) ∧ OwnL w' B (.slice a l.length c) (marks k l.length) ∧ Wr (fun j => (Value.slice a l.length c).ownBlock = some j) w w' :=
  (markSurvey_any B a c st l k w hl hk0 hk ho).mono fun _ _ ⟨h1, h2, h3⟩ => ⟨h1, h2, .ofGrown h3 fun _ hj => (own_slice _ _ _ _ _).trans hj⟩
theorem markDdsW_any (B : Nat) (a : Option Addr) (c : Nat) (l : List Dd) (k : Int) (w : World) (hl : l.length ≤ 1048580) (hk0 : 0 ≤ k) (hk : k ≤ 100000000) (ho : OwnD w B (.slice a l.length c) l) :
    Calls Tryz.prog 22 #[.slice a l.length c, .int .i64 k] w fun e w' => e = .returned (.int .i64 (k + 7 * (l.length : Int))) ∧ OwnD w' B (.slice a l.length c) (marksD k l.length) ∧ Wr (fun j => (Value.slice a l.length c).ownBlock = some j) w w' :=
  (markDds_any B a c l k w hl hk0 hk ho).mono fun _ _ ⟨h1, h2, h3⟩ => ⟨h1, h2, .ofGrown h3 fun _ hj => (own_slice _ _ _ _ _).trans hj⟩

theorem svOk_len {s : Sv} (h : svOk s = true) : s.legs.length ≤ 9 := (svOk_iff.1 h).2.2.1
theorem ddDo_len (s : Sv) (d : Dd) : (ddDo s d).1.legs.length ≤ 9 := by
  cases h : svOk s
  · rw [ddDo_bad h]; exact Nat.zero_le _
  · exact svOk_len (ddDo_valid h)

theorem eqBook_any (a1 a2 a3 a1' a2' a3' : Option Addr) (c1 c2 c3 c1' c2' c3' : Nat) (st : Int) (l : List Lg) (d u : List Dd) (w : World) (hl : l.length ≤ 1048580) (hd : d.length ≤ 1048580) (hu : u.length ≤ 1048580) (h1 : RdB w a1 a2 a3 ⟨⟨st, l⟩, d, u⟩) (h2 : RdB w a1' a2' a3' ⟨⟨st, l⟩, d, u⟩) :
    Calls Tryz.prog 6 #[.agg #[.int .i64 st, .slice a1 l.length c1, .slice a2 d.length c2, .slice a3 u.length c3], .agg #[.int .i64 st, .slice a1' l.length c1', .slice a2' d.length c2', .slice a3' u.length c3']] w fun e w' => e = .returned (.bool true) ∧ Below w.heap.size w w' := by
  obtain ⟨X, hX⟩ : ∃ X, w.heap.size = X := ⟨_, rfl⟩
  obtain ⟨W, hW⟩ : ∃ W, W = (w.alloc (.cells #[.int .i64 st, .slice a1 l.length c1, .slice a2 d.length c2, .slice a3 u.length c3] 27)).alloc (.cells #[.int .i64 st, .slice a1' l.length c1', .slice a2' d.length c2', .slice a3' u.length c3'] 27) := ⟨_, rfl⟩
  have A0 : At W X [.int .i64 st, .slice a1 l.length c1, .slice a2 d.length c2, .slice a3 u.length c3] := by rw [hW]; exact (At.new _ _ _ hX.symm rfl).alloc _
  have R0 : At W (X + 1) [.int .i64 st, .slice a1' l.length c1', .slice a2' d.length c2', .slice a3' u.length c3'] := by rw [hW]; exact At.new _ _ _ (by simp [hX]) rfl
  have bW : Below w.heap.size w W := by rw [hW]; exact (by repeat (first | with_reducible assumption | exact Below.refl _ _ | refine below_drewN ?_ _ | refine Below.drew ?_ | refine Below.alloc ?_ (by first | omega | (simp; done) | (simp; omega)) _ | refine Below.setCell ?_ (by first | omega | (simp; done) | (simp; omega)) _))
  go_enter Tryz.func6, Tryz.ntmps6
  go_wp2_with fail
  rw [← hW]
  clear hW
  refine (eqSurvey_any _ _ _ _ st l _ hl (h1.l.below bW) (h2.l.below bW)).mono ?_
  rintro e w1 ⟨rfl, k1⟩
  replace A0 := A0.below k1
  replace R0 := R0.below k1
  replace bW := bW.trans (k1.mono bW.size)
  clear k1
  obtain ⟨z0, z1, z2, z3, z4, -⟩ := A0.facts4
  obtain ⟨q0, q1, q2, q3, q4, -⟩ := R0.facts4
  go_wp2_with fail
  refine (eqDds_any _ _ _ _ d _ hd (h1.d.below bW) (h2.d.below bW)).mono ?_
  rintro e w2 ⟨rfl, k2⟩
  replace A0 := A0.below k2
  replace R0 := R0.below k2
  replace bW := bW.trans (k2.mono bW.size)
  clear k2 z0 z1 z2 z3 z4 q0 q1 q2 q3 q4
  obtain ⟨z0, z1, z2, z3, z4, -⟩ := A0.facts4
  obtain ⟨q0, q1, q2, q3, q4, -⟩ := R0.facts4
  go_wp2_with fail
  refine (eqDds_any _ _ _ _ u _ hu (h1.u.below bW) (h2.u.below bW)).mono ?_
  rintro e w3 ⟨rfl, k3⟩
  replace bW := bW.trans (k3.mono bW.size)
  clear k3 z0 z1 z2 z3 z4 q0 q1 q2 q3 q4 A0 R0
  go_wp2_with fail
  go_ret
  exact ⟨rfl, bW⟩
/-- a book, all of it marked -/
def bkMark (k : Int) (b : Bk) : Bk := ⟨⟨b.first.st, marks k b.first.legs.length⟩, marksD (k + 5 * (b.first.legs.length : Int)) b.done.length, marksD (k + 5 * (b.first.legs.length : Int) + 7 * (b.done.length : Int)) b.undone.length⟩

theorem markBook_any (B : Nat) (a1 a2 a3 : Option Addr) (c1 c2 c3 : Nat) (st : Int) (l : List Lg) (d u : List Dd) (k : Int) (w : World) (hl : l.length ≤ 1048580) (hd : d.length ≤ 1048580) (hu : u.length ≤ 1048580) (hk0 : 0 ≤ k) (hk : k ≤ 10000000) (hB : B ≤ w.heap.size)
    (ho : BkOwn w B (.slice a1 l.length c1) (.slice a2 d.length c2) (.slice a3 u.length c3) ⟨⟨st, l⟩, d, u⟩) :
    Calls Tryz.prog 7 #[.agg #[.int .i64 st, .slice a1 l.length c1, .slice a2 d.length c2, .slice a3 u.length c3], .int .i64 k] w fun e w' => e = .returned (.int .i64 (k + 5 * (l.length : Int) + 7 * (d.length : Int) + 7 * (u.length : Int))) ∧
      BkOwn w' B (.slice a1 l.length c1) (.slice a2 d.length c2) (.slice a3 u.length c3) (bkMark k ⟨⟨st, l⟩, d, u⟩) ∧ Wr (bkBlk (.slice a1 l.length c1) (.slice a2 d.length c2) (.slice a3 u.length c3)) w w' := by
  obtain ⟨X, hX⟩ : ∃ X, w.heap.size = X := ⟨_, rfl⟩
  obtain ⟨W, hW⟩ : ∃ W, W = w.alloc (.cells #[.int .i64 st, .slice a1 l.length c1, .slice a2 d.length c2, .slice a3 u.length c3] 27) := ⟨_, rfl⟩
  have A0 : At W X [.int .i64 st, .slice a1 l.length c1, .slice a2 d.length c2, .slice a3 u.length c3] := by rw [hW]; exact At.new _ _ _ hX.symm rfl
  have bW : Below w.heap.size w W := by rw [hW]; exact (by repeat (first | with_reducible assumption | exact Below.refl _ _ | refine below_drewN ?_ _ | refine Below.drew ?_ | refine Below.alloc ?_ (by first | omega | (simp; done) | (simp; omega)) _ | refine Below.setCell ?_ (by first | omega | (simp; done) | (simp; omega)) _))
  have hlt : ∀ j, bkBlk (.slice a1 l.length c1) (.slice a2 d.length c2) (.slice a3 u.length c3) j → j ≠ X := fun j hj => by have := (ho.blk hj).2; omega
  have wW : Wr (bkBlk (.slice a1 l.length c1) (.slice a2 d.length c2) (.slice a3 u.length c3)) w W := .ofBelow bW
  have oW := ho.below bW
  go_enter Tryz.func7, Tryz.ntmps7
  go_wp2_with fail
  rw [← hW]
  clear hW ho
  refine (markSurvey_any B _ _ st l k _ hl hk0 (by omega) oW.l).mono ?_
  rintro e w1 ⟨rfl, o1, g1⟩
  have r1 : Wr (fun j => (Value.slice a1 l.length c1).ownBlock = some j) W w1 := .ofGrown g1 fun j hj => (own_slice _ _ _ _ _).trans hj
  clear g1
  have e1 : OwnD w1 B (.slice a2 d.length c2) d := oW.d.wr r1 fun j hj h => oW.ne12 j h hj
  have e2 : OwnD w1 B (.slice a3 u.length c3) u := oW.u.wr r1 fun j hj h => oW.ne13 j h hj
  replace wW := wW.trans ⟨r1.os, r1.tape, r1.output, r1.size, fun j h1 h2 => r1.block j h1 fun h => h2 (.inl h)⟩
  replace A0 := A0.block (r1.block X A0.lt fun h => hlt X (.inl h) rfl)
  clear r1
  obtain ⟨z0, z1, z2, z3, z4, -⟩ := A0.facts4
  have hs1 : 0 ≤ k + 5 * (l.length : Int) := by omega
  go_wp2_with fail
  refine (markDds_any B _ _ d (k + 5 * (l.length : Int)) _ hd hs1 (by omega) e1).mono ?_
  rintro e w2 ⟨rfl, o2, g2⟩
  have r2 : Wr (fun j => (Value.slice a2 d.length c2).ownBlock = some j) w1 w2 := .ofGrown g2 fun j hj => (own_slice _ _ _ _ _).trans hj
  clear g2 e1
  replace o1 := o1.wr r2 fun j hj h => oW.ne12 j hj h
  replace e2 : OwnD w2 B (.slice a3 u.length c3) u := e2.wr r2 fun j hj h => oW.ne23 j h hj
  replace wW := wW.trans ⟨r2.os, r2.tape, r2.output, r2.size, fun j h1 h2 => r2.block j h1 fun h => h2 (.inr (.inl h))⟩
  replace A0 := A0.block (r2.block X A0.lt fun h => hlt X (.inr (.inl h)) rfl)
  clear r2 z0 z1 z2 z3 z4
  obtain ⟨z0, z1, z2, z3, z4, -⟩ := A0.facts4
  have hs2 : 0 ≤ k + 5 * (l.length : Int) + 7 * (d.length : Int) := by omega
  go_wp2_with fail
  refine (markDds_any B _ _ u (k + 5 * (l.length : Int) + 7 * (d.length : Int)) _ hu hs2 (by omega) e2).mono ?_
  rintro e w3 ⟨rfl, o3, g3⟩
  have r3 : Wr (fun j => (Value.slice a3 u.length c3).ownBlock = some j) w2 w3 := .ofGrown g3 fun j hj => (own_slice _ _ _ _ _).trans hj
  clear g3 e2
  replace o1 := o1.wr r3 fun j hj h => oW.ne13 j hj h
  replace o2 := o2.wr r3 fun j hj h => oW.ne23 j hj h
  replace wW := wW.trans ⟨r3.os, r3.tape, r3.output, r3.size, fun j h1 h2 => r3.block j h1 fun h => h2 (.inr (.inr h))⟩
  clear r3 z0 z1 z2 z3 z4 A0
  go_wp2_with fail
  go_ret
  exact ⟨rfl, ⟨o1, o2, o3, oW.ne12, oW.ne13, oW.ne23⟩, wW⟩

theorem heldBook_any (a1 a2 a3 : Option Addr) (n1 n2 n3 c1 c2 c3 : Nat) (st k : Int) (b : Bk) (w : World) (e1 : b.first.legs.length = n1) (e2 : b.done.length = n2) (e3 : b.undone.length = n3) (hl : n1 ≤ 1048580) (hd : n2 ≤ 1048580) (hu : n3 ≤ 1048580) (hk0 : 0 ≤ k) (hk : k ≤ 10000000) (hs : RdB w a1 a2 a3 (bkMark k b)) :
    Calls Tryz.prog 8 #[.agg #[.int .i64 st, .slice a1 n1 c1, .slice a2 n2 c2, .slice a3 n3 c3], .int .i64 k] w fun e w' => e = .returned (.int .i64 (k + 5 * (n1 : Int) + 7 * (n2 : Int) + 7 * (n3 : Int))) ∧ Below w.heap.size w w' := by
  obtain ⟨X, hX⟩ : ∃ X, w.heap.size = X := ⟨_, rfl⟩
  obtain ⟨W, hW⟩ : ∃ W, W = w.alloc (.cells #[.int .i64 st, .slice a1 n1 c1, .slice a2 n2 c2, .slice a3 n3 c3] 27) := ⟨_, rfl⟩
  have A0 : At W X [.int .i64 st, .slice a1 n1 c1, .slice a2 n2 c2, .slice a3 n3 c3] := by rw [hW]; exact At.new _ _ _ hX.symm rfl
  have bW : Below w.heap.size w W := by rw [hW]; exact (by repeat (first | with_reducible assumption | exact Below.refl _ _ | refine below_drewN ?_ _ | refine Below.drew ?_ | refine Below.alloc ?_ (by first | omega | (simp; done) | (simp; omega)) _ | refine Below.setCell ?_ (by first | omega | (simp; done) | (simp; omega)) _))
  have hs1 : 0 ≤ k + 5 * (n1 : Int) := by omega
  have hs2 : 0 ≤ k + 5 * (n1 : Int) + 7 * (n2 : Int) := by omega
  have hs3 : 0 ≤ k + 5 * (n1 : Int) + 7 * (n2 : Int) + 7 * (n3 : Int) := by omega
  have d1 : Legs w a1 (marks k n1) := by have := hs.l; simp only [bkMark, e1] at this; exact this
  have d2 : Dds w a2 (marksD (k + 5 * (n1 : Int)) n2) := by have := hs.d; simp only [bkMark, e1, e2] at this; exact this
  have d3 : Dds w a3 (marksD (k + 5 * (n1 : Int) + 7 * (n2 : Int)) n3) := by have := hs.u; simp only [bkMark, e1, e2, e3] at this; exact this
  clear e1 e2 e3 hs
  go_enter Tryz.func8, Tryz.ntmps8
  go_wp2_with fail
  rw [← hW]
  clear hW
  refine (heldSurvey_any _ _ n1 st k _ hl hk0 (by omega) (d1.below bW)).mono ?_
  rintro e w1 ⟨rfl, k1⟩
  replace A0 := A0.below k1
  replace bW := bW.trans (k1.mono bW.size)
  clear k1
  obtain ⟨z0, z1, z2, z3, z4, -⟩ := A0.facts4
  go_wp2_with fail
  refine (heldDds_any _ _ n2 _ _ hd hs1 (by omega) (d2.below bW)).mono ?_
  rintro e w2 ⟨rfl, rfl⟩
  go_wp2_with fail
  refine (heldDds_any _ _ n3 _ _ hu hs2 (by omega) (d3.below bW)).mono ?_
  rintro e w2 ⟨rfl, rfl⟩
  go_wp2_with fail
  go_ret
  exact ⟨rfl, bW⟩

/-! ### what a region leaves: a box of the call's own, and what it tells of -/
theorem BkOwn.setOther {w : World} {B : Nat} {v1 v2 v3 : Value} {b : Bk} (h : BkOwn w B v1 v2 v3 b) {p : Addr} (hp : ¬ bkBlk v1 v2 v3 p.block) (u : Value) : BkOwn (w.setCell p u) B v1 v2 v3 b :=
  ⟨h.l.setOther (fun e => hp (.inl e)) u, h.d.setOther (fun e => hp (.inr (.inl e))) u, h.u.setOther (fun e => hp (.inr (.inr e))) u, h.ne12, h.ne13, h.ne23⟩
def BoxS (V : World) (s : Sv) (p : Value) (w : World) : Prop := ∃ g a c, p = .pointer (some ⟨g, 0, none⟩) ∧ V.heap.size ≤ g ∧ At w g [.int .i64 s.st, .slice a s.legs.length c] ∧ OwnL w V.heap.size (.slice a s.legs.length c) s.legs ∧
  (∀ k, (Value.slice a s.legs.length c).ownBlock = some k → k ≠ g) ∧ Below V.heap.size V w
theorem boxS_new {V w : World} {s : Sv} {a : Option Addr} {c B : Nat} {T : TypeId} (o : OwnL w B (.slice a s.legs.length c) s.legs) (hB : V.heap.size ≤ B) (b : Below V.heap.size V w) :
    BoxS V s (.pointer (some ⟨w.heap.size, 0, none⟩)) (w.alloc (.cells #[.int .i64 s.st, .slice a s.legs.length c] T)) :=
  ⟨_, a, c, rfl, b.size, At.new _ _ _ rfl rfl, (o.alloc _).mono hB, fun k hk => by have := (o.lt hk).2; omega, b.alloc b.size _⟩
theorem boxS_old {V w : World} {s : Sv} {a : Option Addr} {c B g : Nat} {u0 u1 : Value} (A : At w g [u0, u1]) (hV : V.heap.size ≤ g) (o : OwnL w B (.slice a s.legs.length c) s.legs) (hB : V.heap.size ≤ B) (hg : g < B) (b : Below V.heap.size V w) :
    BoxS V s (.pointer (some ⟨g, 0, none⟩)) ((w.setCell ⟨g, 0, none⟩ (.int .i64 s.st)).setCell ⟨g, 1, none⟩ (.slice a s.legs.length c)) :=
  ⟨_, a, c, rfl, hV, A.sets2 _ _, ((o.setCell (p := ⟨g, 0, none⟩) hg _).setCell (p := ⟨g, 1, none⟩) hg _).mono hB, fun k hk => by have := (o.lt hk).1; omega, (b.setCell (p := ⟨g, 0, none⟩) hV _).setCell (p := ⟨g, 1, none⟩) hV _⟩
def BoxB (V : World) (b : Bk) (p : Value) (w : World) : Prop := ∃ g a1 a2 a3 c1 c2 c3, p = .pointer (some ⟨g, 0, none⟩) ∧ V.heap.size ≤ g ∧ At w g [.int .i64 b.first.st, .slice a1 b.first.legs.length c1, .slice a2 b.done.length c2, .slice a3 b.undone.length c3] ∧
  BkOwn w V.heap.size (.slice a1 b.first.legs.length c1) (.slice a2 b.done.length c2) (.slice a3 b.undone.length c3) b ∧ (∀ k, bkBlk (.slice a1 b.first.legs.length c1) (.slice a2 b.done.length c2) (.slice a3 b.undone.length c3) k → k ≠ g) ∧ Below V.heap.size V w
theorem boxB_new {V w : World} {b : Bk} {a1 a2 a3 : Option Addr} {c1 c2 c3 B : Nat} {T : TypeId} (o : BkOwn w B (.slice a1 b.first.legs.length c1) (.slice a2 b.done.length c2) (.slice a3 b.undone.length c3) b) (hB : V.heap.size ≤ B) (hb : Below V.heap.size V w) :
    BoxB V b (.pointer (some ⟨w.heap.size, 0, none⟩)) (w.alloc (.cells #[.int .i64 b.first.st, .slice a1 b.first.legs.length c1, .slice a2 b.done.length c2, .slice a3 b.undone.length c3] T)) :=
  ⟨_, a1, a2, a3, c1, c2, c3, rfl, hb.size, At.new _ _ _ rfl rfl, (o.alloc _).mono hB, fun k hk => by have := (o.blk hk).2; omega, hb.alloc hb.size _⟩
theorem boxB_old {V w : World} {b : Bk} {a1 a2 a3 : Option Addr} {c1 c2 c3 B g : Nat} {u0 u1 u2 u3 : Value} (A : At w g [u0, u1, u2, u3]) (hV : V.heap.size ≤ g) (o : BkOwn w B (.slice a1 b.first.legs.length c1) (.slice a2 b.done.length c2) (.slice a3 b.undone.length c3) b) (hB : V.heap.size ≤ B) (hg : g < B) (hb : Below V.heap.size V w) :
    BoxB V b (.pointer (some ⟨g, 0, none⟩)) ((((w.setCell ⟨g, 0, none⟩ (.int .i64 b.first.st)).setCell ⟨g, 1, none⟩ (.slice a1 b.first.legs.length c1)).setCell ⟨g, 2, none⟩ (.slice a2 b.done.length c2)).setCell ⟨g, 3, none⟩ (.slice a3 b.undone.length c3)) :=
  ⟨_, a1, a2, a3, c1, c2, c3, rfl, hV, A.sets4 _ _ _ _, ((((o.setCell (p := ⟨g, 0, none⟩) hg _).setCell (p := ⟨g, 1, none⟩) hg _).setCell (p := ⟨g, 2, none⟩) hg _).setCell (p := ⟨g, 3, none⟩) hg _).mono hB, fun k hk => by have := (o.blk hk).1; omega,
    (((hb.setCell (p := ⟨g, 0, none⟩) hV _).setCell (p := ⟨g, 1, none⟩) hV _).setCell (p := ⟨g, 2, none⟩) hV _).setCell (p := ⟨g, 3, none⟩) hV _⟩
end Go.Proofs.YtgggbapcpjfljaaGreatDoor
