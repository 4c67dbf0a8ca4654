/- Walks: impl.DeedBack, spec.DeedBack (the theorems are written by wip/bin/gen_g15.py). -/
import Derived.Test.YtgggbapcpjfljaaG13
import Derived.StillTailTactics
namespace Go.Proofs.Ytgggbapcpjfljaa
open Go Go.RowKit Go.Sort

/-- a deed and a truth come back -/
def DdOut (p : Dd × Bool) (w : World) (e : Ending) (w' : World) : Prop := e = .returned (.tuple #[p.1.val, .bool p.2]) ∧ Below w.heap.size w w'
theorem below_al {w w' : World} (h : Below w.heap.size w w') (o : Obj) : Below w.heap.size w (w'.alloc o) := h.alloc h.size o
theorem below_set7 {w w' : World} {X : Nat} (h : Below w.heap.size w w') (hX : w.heap.size ≤ X) (a b c d e f g : Value) : Below w.heap.size w (((((((w'.setCell ⟨X, 0, none⟩ a).setCell ⟨X, 1, none⟩ b).setCell ⟨X, 2, none⟩ c).setCell ⟨X, 3, none⟩ d).setCell ⟨X, 4, none⟩ e).setCell ⟨X, 5, none⟩ f).setCell ⟨X, 6, none⟩ g) :=
  ((((((h.setCell hX a).setCell hX b).setCell hX c).setCell hX d).setCell hX e).setCell hX f).setCell hX g
theorem drew_cell (w : World) (p : Addr) : w.drew.cell? p = w.cell? p := rfl
theorem keep7 (V : World) (X : Nat) (a b c d e f g : Value) (p : Addr) (hp : p.block ≠ X) : (((((((V.setCell ⟨X, 0, none⟩ a).setCell ⟨X, 1, none⟩ b).setCell ⟨X, 2, none⟩ c).setCell ⟨X, 3, none⟩ d).setCell ⟨X, 4, none⟩ e).setCell ⟨X, 5, none⟩ f).setCell ⟨X, 6, none⟩ g).drew.cell? p = V.cell? p := by
  rw [drew_cell]
  have h : ∀ j, (⟨X, j, none⟩ : Addr) ≠ p := fun j h => hp (by rw [← h])
  rw [World.cell?_setCell_other _ _ _ _ (h 6), World.cell?_setCell_other _ _ _ _ (h 5), World.cell?_setCell_other _ _ _ _ (h 4), World.cell?_setCell_other _ _ _ _ (h 3), World.cell?_setCell_other _ _ _ _ (h 2), World.cell?_setCell_other _ _ _ _ (h 1), World.cell?_setCell_other _ _ _ _ (h 0)]
/-- three blocks laid one behind the other: a survey, a deed, the deed that is to come back -/
structure FrB (w : World) (X : Nat) (st : Int) (v : Value) (d : Dd) : Prop where
  s : AtS w X st v
  d : AtD w (X + 1) d
  r : AtD w (X + 1 + 1) noDd ∧ ∀ j, w.frozen? ⟨X + 1 + 1, j, none⟩ = false
theorem FrB.below {w w' : World} {X : Nat} {st : Int} {v : Value} {d : Dd} (h : FrB w X st v d) (hb : Below w.heap.size w w') : FrB w' X st v d := ⟨h.s.below hb, h.d.below hb, h.r.1.below hb, fun j => (hb.frozen (p := ⟨X + 1 + 1, j, none⟩) h.r.1.lt).trans (h.r.2 j)⟩
theorem FrB.new (w : World) (st : Int) (v : Value) (d : Dd) (T U V : TypeId) : FrB (((w.alloc (.cells #[.int .i64 st, v] T)).alloc (.cells #[.int .i64 d.kind, .int .i64 d.index, .int .i64 d.leg.frm, .int .i64 d.leg.to, .int .i64 d.leg.east, .int .i64 d.leg.north, .int .i64 d.leg.up] U)).alloc (.cells #[.int .i64 0, .int .i64 0, .int .i64 0, .int .i64 0, .int .i64 0, .int .i64 0, .int .i64 0] V)) w.heap.size st v d := by
  have e2 : ((w.alloc (.cells #[.int .i64 st, v] T)).alloc (.cells #[.int .i64 d.kind, .int .i64 d.index, .int .i64 d.leg.frm, .int .i64 d.leg.to, .int .i64 d.leg.east, .int .i64 d.leg.north, .int .i64 d.leg.up] U)).heap.size = w.heap.size + 1 + 1 := by simp
  refine ⟨((AtS.new w st v T).alloc _).alloc _, ?_, ?_, fun j => ?_⟩
  · have := (AtD.new (w.alloc (.cells #[.int .i64 st, v] T)) d U).alloc (.cells #[.int .i64 0, .int .i64 0, .int .i64 0, .int .i64 0, .int .i64 0, .int .i64 0, .int .i64 0] V)
    rwa [show (w.alloc (.cells #[.int .i64 st, v] T)).heap.size = w.heap.size + 1 by simp] at this
  · have := AtD.new ((w.alloc (.cells #[.int .i64 st, v] T)).alloc (.cells #[.int .i64 d.kind, .int .i64 d.index, .int .i64 d.leg.frm, .int .i64 d.leg.to, .int .i64 d.leg.east, .int .i64 d.leg.north, .int .i64 d.leg.up] U)) noDd V
    rwa [e2] at this
  · have := World.frozen?_alloc_new ((w.alloc (.cells #[.int .i64 st, v] T)).alloc (.cells #[.int .i64 d.kind, .int .i64 d.index, .int .i64 d.leg.frm, .int .i64 d.leg.to, .int .i64 d.leg.east, .int .i64 d.leg.north, .int .i64 d.leg.up] U)) #[.int .i64 0, .int .i64 0, .int .i64 0, .int .i64 0, .int .i64 0, .int .i64 0, .int .i64 0] V j
    rwa [e2] at this

set_option maxHeartbeats 1000000 in
theorem back_no (a : Option Addr) (c : Nat) (st : Int) (l : List Lg) (kd ix : Int) (g : Lg) (w : World) (hl : l.length ≤ 1048576) (hs : Legs w a l) (h2 : (ddDo ⟨st, l⟩ ⟨kd, ix, g⟩).2 = false) :
    Calls Try.prog 15 #[.agg #[.int .i64 st, .slice a l.length c], (⟨kd, ix, g⟩ : Dd).val] w (DdOut (noDd, false) w) := by
  obtain ⟨x1, x2, x3, x4, x5⟩ := g
  show Calls Try.prog 15 #[.agg #[.int .i64 st, .slice a l.length c], .agg #[.int .i64 kd, .int .i64 ix, .int .i64 x1, .int .i64 x2, .int .i64 x3, .int .i64 x4, .int .i64 x5]] w _
  go_enter Try.func15, Try.ntmps15
  go_wp2_with fail
  obtain ⟨X, hX⟩ : ∃ X, w.heap.size = X := ⟨_, rfl⟩
  obtain ⟨W0, hW0⟩ : ∃ W0, W0 = ((w.alloc (.cells #[.int .i64 st, .slice a l.length c] 37)).alloc (.cells #[.int .i64 kd, .int .i64 ix, .int .i64 x1, .int .i64 x2, .int .i64 x3, .int .i64 x4, .int .i64 x5] 32)).alloc (.cells #[.int .i64 0, .int .i64 0, .int .i64 0, .int .i64 0, .int .i64 0, .int .i64 0, .int .i64 0] 32) := ⟨_, rfl⟩
  have F0 : FrB W0 X st (.slice a l.length c) ⟨kd, ix, ⟨x1, x2, x3, x4, x5⟩⟩ := by rw [hW0, ← hX]; exact FrB.new w st _ ⟨kd, ix, ⟨x1, x2, x3, x4, x5⟩⟩ _ _ _
  have b0 : Below w.heap.size w W0 := by rw [hW0]; exact (by repeat (first | with_reducible assumption | exact Below.refl _ _ | refine below_drewN ?_ _ | refine Below.drew ?_ | refine Below.alloc ?_ (by first | omega | (simp; done) | (simp; omega)) _ | refine Below.setCell ?_ (by first | omega | (simp; done) | (simp; omega)) _))
  rw [hX, ← hW0]
  clear hW0
  refine (deedDo_any _ _ st l ⟨kd, ix, ⟨x1, x2, x3, x4, x5⟩⟩ _ hl (hs.below b0)).mono ?_
  rintro e w1 ⟨v, rfl, o1, b1⟩
  obtain ⟨av, cv, rfl⟩ := o1.sl
  replace F0 := F0.below b1
  replace b0 := b0.trans (b1.mono b0.size)
  have hwX : w.heap.size ≤ X := by omega
  clear b1 o1 W0 hX
  obtain ⟨s0, s1, s2, -, -⟩ := F0.s
  obtain ⟨d0, d1, d2, d3, d4, d5, d6, d7⟩ := F0.d
  simp only at d1 d2 d3 d4 d5 d6 d7
  obtain ⟨⟨r0, r1, r2, r3, r4, r5, r6, r7⟩, hf⟩ := F0.r
  simp only [noDd, noLeg] at r1 r2 r3 r4 r5 r6 r7
  rw [h2]
  generalize (ddDo ⟨st, l⟩ ⟨kd, ix, ⟨x1, x2, x3, x4, x5⟩⟩).1 = S1
  clear h2 F0
  go_wp2_with fail
  refine bodyPost_ret (v := .tuple #[.agg #[.int .i64 (0), .int .i64 (0), .int .i64 (0), .int .i64 (0), .int .i64 (0), .int .i64 (0), .int .i64 (0)], .bool false]) (by simp [results, Try.results15, go_sem, r0, r1, r2, r3, r4, r5, r6, r7]) rfl ⟨rfl, ?_⟩
  exact below_al (below_set7 b0 (by omega) _ _ _ _ _ _ _) _

set_option maxHeartbeats 1000000 in
theorem back0 (a : Option Addr) (c : Nat) (st : Int) (l : List Lg) (ix : Int) (g : Lg) (w : World) (hl : l.length ≤ 1048576) (hs : Legs w a l) (h2 : (ddDo ⟨st, l⟩ ⟨0, ix, g⟩).2 = true) :
    Calls Try.prog 15 #[.agg #[.int .i64 st, .slice a l.length c], (⟨0, ix, g⟩ : Dd).val] w (DdOut (⟨1, ix, noLeg⟩, true) w) := by
  obtain ⟨x1, x2, x3, x4, x5⟩ := g
  show Calls Try.prog 15 #[.agg #[.int .i64 st, .slice a l.length c], .agg #[.int .i64 0, .int .i64 ix, .int .i64 x1, .int .i64 x2, .int .i64 x3, .int .i64 x4, .int .i64 x5]] w _
  go_enter Try.func15, Try.ntmps15
  go_wp2_with fail
  obtain ⟨X, hX⟩ : ∃ X, w.heap.size = X := ⟨_, rfl⟩
  obtain ⟨W0, hW0⟩ : ∃ W0, W0 = ((w.alloc (.cells #[.int .i64 st, .slice a l.length c] 37)).alloc (.cells #[.int .i64 0, .int .i64 ix, .int .i64 x1, .int .i64 x2, .int .i64 x3, .int .i64 x4, .int .i64 x5] 32)).alloc (.cells #[.int .i64 0, .int .i64 0, .int .i64 0, .int .i64 0, .int .i64 0, .int .i64 0, .int .i64 0] 32) := ⟨_, rfl⟩
  have F0 : FrB W0 X st (.slice a l.length c) ⟨0, ix, ⟨x1, x2, x3, x4, x5⟩⟩ := by rw [hW0, ← hX]; exact FrB.new w st _ ⟨0, ix, ⟨x1, x2, x3, x4, x5⟩⟩ _ _ _
  have b0 : Below w.heap.size w W0 := by rw [hW0]; exact (by repeat (first | with_reducible assumption | exact Below.refl _ _ | refine below_drewN ?_ _ | refine Below.drew ?_ | refine Below.alloc ?_ (by first | omega | (simp; done) | (simp; omega)) _ | refine Below.setCell ?_ (by first | omega | (simp; done) | (simp; omega)) _))
  rw [hX, ← hW0]
  clear hW0
  refine (deedDo_any _ _ st l ⟨0, ix, ⟨x1, x2, x3, x4, x5⟩⟩ _ hl (hs.below b0)).mono ?_
  rintro e w1 ⟨v, rfl, o1, b1⟩
  obtain ⟨av, cv, rfl⟩ := o1.sl
  replace F0 := F0.below b1
  replace b0 := b0.trans (b1.mono b0.size)
  have hwX : w.heap.size ≤ X := by omega
  clear b1 o1 W0 hX
  obtain ⟨s0, s1, s2, -, -⟩ := F0.s
  obtain ⟨d0, d1, d2, d3, d4, d5, d6, d7⟩ := F0.d
  simp only at d1 d2 d3 d4 d5 d6 d7
  obtain ⟨⟨r0, r1, r2, r3, r4, r5, r6, r7⟩, hf⟩ := F0.r
  simp only [noDd, noLeg] at r1 r2 r3 r4 r5 r6 r7
  rw [h2]
  generalize (ddDo ⟨st, l⟩ ⟨0, ix, ⟨x1, x2, x3, x4, x5⟩⟩).1 = S1
  clear h2 F0
  go_wp2_with fail
  refine bodyPost_ret (v := .tuple #[.agg #[.int .i64 (1), .int .i64 (ix), .int .i64 (0), .int .i64 (0), .int .i64 (0), .int .i64 (0), .int .i64 (0)], .bool true]) (by simp [results, Try.results15, go_sem, r0, r1, r2, r3, r4, r5, r6, r7]) rfl ⟨rfl, ?_⟩
  exact below_al (below_set7 b0 (by omega) _ _ _ _ _ _ _) _

set_option maxHeartbeats 1000000 in
theorem back2 (a : Option Addr) (c : Nat) (st : Int) (l : List Lg) (ix : Int) (g : Lg) (w : World) (hl : l.length ≤ 1048576) (hs : Legs w a l) (h2 : (ddDo ⟨st, l⟩ ⟨2, ix, g⟩).2 = true) :
    Calls Try.prog 15 #[.agg #[.int .i64 st, .slice a l.length c], (⟨2, ix, g⟩ : Dd).val] w (DdOut (⟨2, ix, g⟩, true) w) := by
  obtain ⟨x1, x2, x3, x4, x5⟩ := g
  show Calls Try.prog 15 #[.agg #[.int .i64 st, .slice a l.length c], .agg #[.int .i64 2, .int .i64 ix, .int .i64 x1, .int .i64 x2, .int .i64 x3, .int .i64 x4, .int .i64 x5]] w _
  go_enter Try.func15, Try.ntmps15
  go_wp2_with fail
  obtain ⟨X, hX⟩ : ∃ X, w.heap.size = X := ⟨_, rfl⟩
  obtain ⟨W0, hW0⟩ : ∃ W0, W0 = ((w.alloc (.cells #[.int .i64 st, .slice a l.length c] 37)).alloc (.cells #[.int .i64 2, .int .i64 ix, .int .i64 x1, .int .i64 x2, .int .i64 x3, .int .i64 x4, .int .i64 x5] 32)).alloc (.cells #[.int .i64 0, .int .i64 0, .int .i64 0, .int .i64 0, .int .i64 0, .int .i64 0, .int .i64 0] 32) := ⟨_, rfl⟩
  have F0 : FrB W0 X st (.slice a l.length c) ⟨2, ix, ⟨x1, x2, x3, x4, x5⟩⟩ := by rw [hW0, ← hX]; exact FrB.new w st _ ⟨2, ix, ⟨x1, x2, x3, x4, x5⟩⟩ _ _ _
  have b0 : Below w.heap.size w W0 := by rw [hW0]; exact (by repeat (first | with_reducible assumption | exact Below.refl _ _ | refine below_drewN ?_ _ | refine Below.drew ?_ | refine Below.alloc ?_ (by first | omega | (simp; done) | (simp; omega)) _ | refine Below.setCell ?_ (by first | omega | (simp; done) | (simp; omega)) _))
  rw [hX, ← hW0]
  clear hW0
  refine (deedDo_any _ _ st l ⟨2, ix, ⟨x1, x2, x3, x4, x5⟩⟩ _ hl (hs.below b0)).mono ?_
  rintro e w1 ⟨v, rfl, o1, b1⟩
  obtain ⟨av, cv, rfl⟩ := o1.sl
  replace F0 := F0.below b1
  replace b0 := b0.trans (b1.mono b0.size)
  have hwX : w.heap.size ≤ X := by omega
  clear b1 o1 W0 hX
  obtain ⟨s0, s1, s2, -, -⟩ := F0.s
  obtain ⟨d0, d1, d2, d3, d4, d5, d6, d7⟩ := F0.d
  simp only at d1 d2 d3 d4 d5 d6 d7
  obtain ⟨⟨r0, r1, r2, r3, r4, r5, r6, r7⟩, hf⟩ := F0.r
  simp only [noDd, noLeg] at r1 r2 r3 r4 r5 r6 r7
  rw [h2]
  generalize (ddDo ⟨st, l⟩ ⟨2, ix, ⟨x1, x2, x3, x4, x5⟩⟩).1 = S1
  clear h2 F0
  go_wp2_with fail
  refine bodyPost_ret (v := .tuple #[.agg #[.int .i64 (2), .int .i64 (ix), .int .i64 (x1), .int .i64 (x2), .int .i64 (x3), .int .i64 (x4), .int .i64 (x5)], .bool true]) (by simp [results, Try.results15, go_sem, r0, r1, r2, r3, r4, r5, r6, r7]) rfl ⟨rfl, ?_⟩
  exact below_al (below_set7 b0 (by omega) _ _ _ _ _ _ _) _

set_option maxHeartbeats 1000000 in
theorem back4 (a : Option Addr) (c : Nat) (st : Int) (l : List Lg) (ix : Int) (g : Lg) (w : World) (hl : l.length ≤ 1048576) (hs : Legs w a l) (h2 : (ddDo ⟨st, l⟩ ⟨4, ix, g⟩).2 = true) :
    Calls Try.prog 15 #[.agg #[.int .i64 st, .slice a l.length c], (⟨4, ix, g⟩ : Dd).val] w (DdOut (⟨5, 0, noLeg⟩, true) w) := by
  obtain ⟨x1, x2, x3, x4, x5⟩ := g
  show Calls Try.prog 15 #[.agg #[.int .i64 st, .slice a l.length c], .agg #[.int .i64 4, .int .i64 ix, .int .i64 x1, .int .i64 x2, .int .i64 x3, .int .i64 x4, .int .i64 x5]] w _
  go_enter Try.func15, Try.ntmps15
  go_wp2_with fail
  obtain ⟨X, hX⟩ : ∃ X, w.heap.size = X := ⟨_, rfl⟩
  obtain ⟨W0, hW0⟩ : ∃ W0, W0 = ((w.alloc (.cells #[.int .i64 st, .slice a l.length c] 37)).alloc (.cells #[.int .i64 4, .int .i64 ix, .int .i64 x1, .int .i64 x2, .int .i64 x3, .int .i64 x4, .int .i64 x5] 32)).alloc (.cells #[.int .i64 0, .int .i64 0, .int .i64 0, .int .i64 0, .int .i64 0, .int .i64 0, .int .i64 0] 32) := ⟨_, rfl⟩
  have F0 : FrB W0 X st (.slice a l.length c) ⟨4, ix, ⟨x1, x2, x3, x4, x5⟩⟩ := by rw [hW0, ← hX]; exact FrB.new w st _ ⟨4, ix, ⟨x1, x2, x3, x4, x5⟩⟩ _ _ _
  have b0 : Below w.heap.size w W0 := by rw [hW0]; exact (by repeat (first | with_reducible assumption | exact Below.refl _ _ | refine below_drewN ?_ _ | refine Below.drew ?_ | refine Below.alloc ?_ (by first | omega | (simp; done) | (simp; omega)) _ | refine Below.setCell ?_ (by first | omega | (simp; done) | (simp; omega)) _))
  rw [hX, ← hW0]
  clear hW0
  refine (deedDo_any _ _ st l ⟨4, ix, ⟨x1, x2, x3, x4, x5⟩⟩ _ hl (hs.below b0)).mono ?_
  rintro e w1 ⟨v, rfl, o1, b1⟩
  obtain ⟨av, cv, rfl⟩ := o1.sl
  replace F0 := F0.below b1
  replace b0 := b0.trans (b1.mono b0.size)
  have hwX : w.heap.size ≤ X := by omega
  clear b1 o1 W0 hX
  obtain ⟨s0, s1, s2, -, -⟩ := F0.s
  obtain ⟨d0, d1, d2, d3, d4, d5, d6, d7⟩ := F0.d
  simp only at d1 d2 d3 d4 d5 d6 d7
  obtain ⟨⟨r0, r1, r2, r3, r4, r5, r6, r7⟩, hf⟩ := F0.r
  simp only [noDd, noLeg] at r1 r2 r3 r4 r5 r6 r7
  rw [h2]
  generalize (ddDo ⟨st, l⟩ ⟨4, ix, ⟨x1, x2, x3, x4, x5⟩⟩).1 = S1
  clear h2 F0
  go_wp2_with fail
  refine bodyPost_ret (v := .tuple #[.agg #[.int .i64 (5), .int .i64 (0), .int .i64 (0), .int .i64 (0), .int .i64 (0), .int .i64 (0), .int .i64 (0)], .bool true]) (by simp [results, Try.results15, go_sem, r0, r1, r2, r3, r4, r5, r6, r7]) rfl ⟨rfl, ?_⟩
  exact below_al (below_set7 b0 (by omega) _ _ _ _ _ _ _) _

set_option maxHeartbeats 1000000 in
theorem back5 (a : Option Addr) (c : Nat) (st : Int) (l : List Lg) (ix : Int) (g : Lg) (w : World) (hl : l.length ≤ 1048576) (hs : Legs w a l) (h2 : (ddDo ⟨st, l⟩ ⟨5, ix, g⟩).2 = true) :
    Calls Try.prog 15 #[.agg #[.int .i64 st, .slice a l.length c], (⟨5, ix, g⟩ : Dd).val] w (DdOut (⟨4, 0, noLeg⟩, true) w) := by
  obtain ⟨x1, x2, x3, x4, x5⟩ := g
  show Calls Try.prog 15 #[.agg #[.int .i64 st, .slice a l.length c], .agg #[.int .i64 5, .int .i64 ix, .int .i64 x1, .int .i64 x2, .int .i64 x3, .int .i64 x4, .int .i64 x5]] w _
  go_enter Try.func15, Try.ntmps15
  go_wp2_with fail
  obtain ⟨X, hX⟩ : ∃ X, w.heap.size = X := ⟨_, rfl⟩
  obtain ⟨W0, hW0⟩ : ∃ W0, W0 = ((w.alloc (.cells #[.int .i64 st, .slice a l.length c] 37)).alloc (.cells #[.int .i64 5, .int .i64 ix, .int .i64 x1, .int .i64 x2, .int .i64 x3, .int .i64 x4, .int .i64 x5] 32)).alloc (.cells #[.int .i64 0, .int .i64 0, .int .i64 0, .int .i64 0, .int .i64 0, .int .i64 0, .int .i64 0] 32) := ⟨_, rfl⟩
  have F0 : FrB W0 X st (.slice a l.length c) ⟨5, ix, ⟨x1, x2, x3, x4, x5⟩⟩ := by rw [hW0, ← hX]; exact FrB.new w st _ ⟨5, ix, ⟨x1, x2, x3, x4, x5⟩⟩ _ _ _
  have b0 : Below w.heap.size w W0 := by rw [hW0]; exact (by repeat (first | with_reducible assumption | exact Below.refl _ _ | refine below_drewN ?_ _ | refine Below.drew ?_ | refine Below.alloc ?_ (by first | omega | (simp; done) | (simp; omega)) _ | refine Below.setCell ?_ (by first | omega | (simp; done) | (simp; omega)) _))
  rw [hX, ← hW0]
  clear hW0
  refine (deedDo_any _ _ st l ⟨5, ix, ⟨x1, x2, x3, x4, x5⟩⟩ _ hl (hs.below b0)).mono ?_
  rintro e w1 ⟨v, rfl, o1, b1⟩
  obtain ⟨av, cv, rfl⟩ := o1.sl
  replace F0 := F0.below b1
  replace b0 := b0.trans (b1.mono b0.size)
  have hwX : w.heap.size ≤ X := by omega
  clear b1 o1 W0 hX
  obtain ⟨s0, s1, s2, -, -⟩ := F0.s
  obtain ⟨d0, d1, d2, d3, d4, d5, d6, d7⟩ := F0.d
  simp only at d1 d2 d3 d4 d5 d6 d7
  obtain ⟨⟨r0, r1, r2, r3, r4, r5, r6, r7⟩, hf⟩ := F0.r
  simp only [noDd, noLeg] at r1 r2 r3 r4 r5 r6 r7
  rw [h2]
  generalize (ddDo ⟨st, l⟩ ⟨5, ix, ⟨x1, x2, x3, x4, x5⟩⟩).1 = S1
  clear h2 F0
  go_wp2_with fail
  refine bodyPost_ret (v := .tuple #[.agg #[.int .i64 (4), .int .i64 (0), .int .i64 (0), .int .i64 (0), .int .i64 (0), .int .i64 (0), .int .i64 (0)], .bool true]) (by simp [results, Try.results15, go_sem, r0, r1, r2, r3, r4, r5, r6, r7]) rfl ⟨rfl, ?_⟩
  exact below_al (below_set7 b0 (by omega) _ _ _ _ _ _ _) _

set_option maxHeartbeats 1000000 in
theorem back1 (a : Option Addr) (c : Nat) (st : Int) (l : List Lg) (i : Nat) (hi : i < l.length) (g : Lg) (w : World) (hl : l.length ≤ 1048576) (hs : Legs w a l) (h2 : (ddDo ⟨st, l⟩ ⟨1, (i : Int), g⟩).2 = true) (hl9 : l.length ≤ 9) :
    Calls Try.prog 15 #[.agg #[.int .i64 st, .slice a l.length c], (⟨1, (i : Int), g⟩ : Dd).val] w (DdOut (⟨0, (i : Int), nth l i⟩, true) w) := by
  obtain ⟨x1, x2, x3, x4, x5⟩ := g
  show Calls Try.prog 15 #[.agg #[.int .i64 st, .slice a l.length c], .agg #[.int .i64 1, .int .i64 (i : Int), .int .i64 x1, .int .i64 x2, .int .i64 x3, .int .i64 x4, .int .i64 x5]] w _
  have hii : (i : Int) < (l.length : Int) := by omega
  have hi0 : (0 : Int) ≤ (i : Int) := by omega
  go_enter Try.func15, Try.ntmps15
  go_wp2_with fail
  obtain ⟨X, hX⟩ : ∃ X, w.heap.size = X := ⟨_, rfl⟩
  obtain ⟨W0, hW0⟩ : ∃ W0, W0 = ((w.alloc (.cells #[.int .i64 st, .slice a l.length c] 37)).alloc (.cells #[.int .i64 1, .int .i64 (i : Int), .int .i64 x1, .int .i64 x2, .int .i64 x3, .int .i64 x4, .int .i64 x5] 32)).alloc (.cells #[.int .i64 0, .int .i64 0, .int .i64 0, .int .i64 0, .int .i64 0, .int .i64 0, .int .i64 0] 32) := ⟨_, rfl⟩
  have F0 : FrB W0 X st (.slice a l.length c) ⟨1, (i : Int), ⟨x1, x2, x3, x4, x5⟩⟩ := by rw [hW0, ← hX]; exact FrB.new w st _ ⟨1, (i : Int), ⟨x1, x2, x3, x4, x5⟩⟩ _ _ _
  have b0 : Below w.heap.size w W0 := by rw [hW0]; exact (by repeat (first | with_reducible assumption | exact Below.refl _ _ | refine below_drewN ?_ _ | refine Below.drew ?_ | refine Below.alloc ?_ (by first | omega | (simp; done) | (simp; omega)) _ | refine Below.setCell ?_ (by first | omega | (simp; done) | (simp; omega)) _))
  rw [hX, ← hW0]
  clear hW0
  refine (deedDo_any _ _ st l ⟨1, (i : Int), ⟨x1, x2, x3, x4, x5⟩⟩ _ hl (hs.below b0)).mono ?_
  rintro e w1 ⟨v, rfl, o1, b1⟩
  obtain ⟨av, cv, rfl⟩ := o1.sl
  replace F0 := F0.below b1
  replace b0 := b0.trans (b1.mono b0.size)
  have hwX : w.heap.size ≤ X := by omega
  clear b1 o1 W0 hX
  obtain ⟨s0, s1, s2, -, -⟩ := F0.s
  obtain ⟨d0, d1, d2, d3, d4, d5, d6, d7⟩ := F0.d
  simp only at d1 d2 d3 d4 d5 d6 d7
  obtain ⟨⟨r0, r1, r2, r3, r4, r5, r6, r7⟩, hf⟩ := F0.r
  simp only [noDd, noLeg] at r1 r2 r3 r4 r5 r6 r7
  rw [h2]
  generalize (ddDo ⟨st, l⟩ ⟨1, (i : Int), ⟨x1, x2, x3, x4, x5⟩⟩).1 = S1
  clear h2 s0 s1 s2 d0 d1 d2 d3 d4 d5 d6 d7 r0 r1 r2 r3 r4 r5 r6 r7 hf
  obtain ⟨d0, d1, -, -, -, -, -, -⟩ := F0.d
  simp only at d1
  go_wp2_with fail
  obtain ⟨V, hV⟩ : ∃ V, V = w1.alloc (.cells #[.int .i64 S1.st, .slice av S1.legs.length cv] 37) := ⟨_, rfl⟩
  have bV : Below w1.heap.size w1 V := by rw [hV]; exact (by repeat (first | with_reducible assumption | exact Below.refl _ _ | refine below_drewN ?_ _ | refine Below.drew ?_ | refine Below.alloc ?_ (by first | omega | (simp; done) | (simp; omega)) _ | refine Below.setCell ?_ (by first | omega | (simp; done) | (simp; omega)) _))
  rw [← hV]
  replace F0 := F0.below bV
  replace b0 := b0.trans (bV.mono b0.size)
  clear hV bV d0 d1
  generalize w1.heap.size = Y1
  obtain ⟨bl, off, hae, hbl, m0, m1, m2, m3, m4⟩ := Legs.at (hs.below b0) hi
  cases hae
  have hblw : bl < w.heap.size := by
    obtain ⟨_, _, e9, hb9, -⟩ := Legs.at hs hi
    cases e9
    exact hb9
  obtain ⟨s0, s1, s2, -, -⟩ := F0.s
  obtain ⟨d0, d1, d2, d3, d4, d5, d6, d7⟩ := F0.d
  simp only at d1 d2 d3 d4 d5 d6 d7
  obtain ⟨⟨r0, r1, r2, r3, r4, r5, r6, r7⟩, hf⟩ := F0.r
  simp only [noDd, noLeg] at r1 r2 r3 r4 r5 r6 r7
  clear F0
  go_still_tail 9, (by kernel_rfl)
  change wpList _ _ _ _ _ V.drew
  obtain ⟨V2, hV2⟩ : ∃ V2, V2 = V.drew := ⟨_, rfl⟩
  have b2 : Below w.heap.size w V2 := by rw [hV2]; exact b0.drew
  have q0 : X + 1 + 1 < V2.heap.size := by rw [hV2]; exact r0
  have q1 : V2.cell? ⟨X + 1 + 1, 0, none⟩ = some (.int .i64 0) := by rw [hV2]; exact r1
  have q2 : V2.cell? ⟨X + 1 + 1, 1, none⟩ = some (.int .i64 0) := by rw [hV2]; exact r2
  have q3 : V2.cell? ⟨X + 1 + 1, 2, none⟩ = some (.int .i64 0) := by rw [hV2]; exact r3
  have q4 : V2.cell? ⟨X + 1 + 1, 3, none⟩ = some (.int .i64 0) := by rw [hV2]; exact r4
  have q5 : V2.cell? ⟨X + 1 + 1, 4, none⟩ = some (.int .i64 0) := by rw [hV2]; exact r5
  have q6 : V2.cell? ⟨X + 1 + 1, 5, none⟩ = some (.int .i64 0) := by rw [hV2]; exact r6
  have q7 : V2.cell? ⟨X + 1 + 1, 6, none⟩ = some (.int .i64 0) := by rw [hV2]; exact r7
  have hq : ∀ j, V2.frozen? ⟨X + 1 + 1, j, none⟩ = false := by rw [hV2]; exact hf
  rw [← hV2]
  clear hV2 r0 r1 r2 r3 r4 r5 r6 r7 hf s0 s1 s2 d0 d1 d2 d3 d4 d5 d6 d7 m0 m1 m2 m3 m4 b0 hbl
  go_wp2_with fail
  refine bodyPost_ret (v := .tuple #[.agg #[.int .i64 0, .int .i64 (i : Int), .int .i64 (nth l i).frm, .int .i64 (nth l i).to, .int .i64 (nth l i).east, .int .i64 (nth l i).north, .int .i64 (nth l i).up], .bool true]) (by simp [results, Try.results15, go_sem, q0, q1, q2, q3, q4, q5, q6, q7]) rfl ⟨rfl, ?_⟩
  exact below_set7 b2 (by omega) _ _ _ _ _ _ _

set_option maxHeartbeats 1000000 in
theorem back3 (a : Option Addr) (c : Nat) (st : Int) (l : List Lg) (i : Nat) (hi : i < l.length) (g : Lg) (w : World) (hl : l.length ≤ 1048576) (hs : Legs w a l) (h2 : (ddDo ⟨st, l⟩ ⟨3, (i : Int), g⟩).2 = true) (hl9 : l.length ≤ 9) :
    Calls Try.prog 15 #[.agg #[.int .i64 st, .slice a l.length c], (⟨3, (i : Int), g⟩ : Dd).val] w (DdOut (⟨3, (i : Int), nth l i⟩, true) w) := by
  obtain ⟨x1, x2, x3, x4, x5⟩ := g
  show Calls Try.prog 15 #[.agg #[.int .i64 st, .slice a l.length c], .agg #[.int .i64 3, .int .i64 (i : Int), .int .i64 x1, .int .i64 x2, .int .i64 x3, .int .i64 x4, .int .i64 x5]] w _
  have hii : (i : Int) < (l.length : Int) := by omega
  have hi0 : (0 : Int) ≤ (i : Int) := by omega
  go_enter Try.func15, Try.ntmps15
  go_wp2_with fail
  obtain ⟨X, hX⟩ : ∃ X, w.heap.size = X := ⟨_, rfl⟩
  obtain ⟨W0, hW0⟩ : ∃ W0, W0 = ((w.alloc (.cells #[.int .i64 st, .slice a l.length c] 37)).alloc (.cells #[.int .i64 3, .int .i64 (i : Int), .int .i64 x1, .int .i64 x2, .int .i64 x3, .int .i64 x4, .int .i64 x5] 32)).alloc (.cells #[.int .i64 0, .int .i64 0, .int .i64 0, .int .i64 0, .int .i64 0, .int .i64 0, .int .i64 0] 32) := ⟨_, rfl⟩
  have F0 : FrB W0 X st (.slice a l.length c) ⟨3, (i : Int), ⟨x1, x2, x3, x4, x5⟩⟩ := by rw [hW0, ← hX]; exact FrB.new w st _ ⟨3, (i : Int), ⟨x1, x2, x3, x4, x5⟩⟩ _ _ _
  have b0 : Below w.heap.size w W0 := by rw [hW0]; exact (by repeat (first | with_reducible assumption | exact Below.refl _ _ | refine below_drewN ?_ _ | refine Below.drew ?_ | refine Below.alloc ?_ (by first | omega | (simp; done) | (simp; omega)) _ | refine Below.setCell ?_ (by first | omega | (simp; done) | (simp; omega)) _))
  rw [hX, ← hW0]
  clear hW0
  refine (deedDo_any _ _ st l ⟨3, (i : Int), ⟨x1, x2, x3, x4, x5⟩⟩ _ hl (hs.below b0)).mono ?_
  rintro e w1 ⟨v, rfl, o1, b1⟩
  obtain ⟨av, cv, rfl⟩ := o1.sl
  replace F0 := F0.below b1
  replace b0 := b0.trans (b1.mono b0.size)
  have hwX : w.heap.size ≤ X := by omega
  clear b1 o1 W0 hX
  obtain ⟨s0, s1, s2, -, -⟩ := F0.s
  obtain ⟨d0, d1, d2, d3, d4, d5, d6, d7⟩ := F0.d
  simp only at d1 d2 d3 d4 d5 d6 d7
  obtain ⟨⟨r0, r1, r2, r3, r4, r5, r6, r7⟩, hf⟩ := F0.r
  simp only [noDd, noLeg] at r1 r2 r3 r4 r5 r6 r7
  rw [h2]
  generalize (ddDo ⟨st, l⟩ ⟨3, (i : Int), ⟨x1, x2, x3, x4, x5⟩⟩).1 = S1
  clear h2 s0 s1 s2 d0 d1 d2 d3 d4 d5 d6 d7 r0 r1 r2 r3 r4 r5 r6 r7 hf
  obtain ⟨d0, d1, -, -, -, -, -, -⟩ := F0.d
  simp only at d1
  go_wp2_with fail
  obtain ⟨V, hV⟩ : ∃ V, V = w1.alloc (.cells #[.int .i64 S1.st, .slice av S1.legs.length cv] 37) := ⟨_, rfl⟩
  have bV : Below w1.heap.size w1 V := by rw [hV]; exact (by repeat (first | with_reducible assumption | exact Below.refl _ _ | refine below_drewN ?_ _ | refine Below.drew ?_ | refine Below.alloc ?_ (by first | omega | (simp; done) | (simp; omega)) _ | refine Below.setCell ?_ (by first | omega | (simp; done) | (simp; omega)) _))
  rw [← hV]
  replace F0 := F0.below bV
  replace b0 := b0.trans (bV.mono b0.size)
  clear hV bV d0 d1
  generalize w1.heap.size = Y1
  obtain ⟨bl, off, hae, hbl, m0, m1, m2, m3, m4⟩ := Legs.at (hs.below b0) hi
  cases hae
  have hblw : bl < w.heap.size := by
    obtain ⟨_, _, e9, hb9, -⟩ := Legs.at hs hi
    cases e9
    exact hb9
  obtain ⟨s0, s1, s2, -, -⟩ := F0.s
  obtain ⟨d0, d1, d2, d3, d4, d5, d6, d7⟩ := F0.d
  simp only at d1 d2 d3 d4 d5 d6 d7
  obtain ⟨⟨r0, r1, r2, r3, r4, r5, r6, r7⟩, hf⟩ := F0.r
  simp only [noDd, noLeg] at r1 r2 r3 r4 r5 r6 r7
  clear F0
  go_still_tail 9, (by kernel_rfl)
  change wpList _ _ _ _ _ V.drew
  obtain ⟨V2, hV2⟩ : ∃ V2, V2 = V.drew := ⟨_, rfl⟩
  have b2 : Below w.heap.size w V2 := by rw [hV2]; exact b0.drew
  have q0 : X + 1 + 1 < V2.heap.size := by rw [hV2]; exact r0
  have q1 : V2.cell? ⟨X + 1 + 1, 0, none⟩ = some (.int .i64 0) := by rw [hV2]; exact r1
  have q2 : V2.cell? ⟨X + 1 + 1, 1, none⟩ = some (.int .i64 0) := by rw [hV2]; exact r2
  have q3 : V2.cell? ⟨X + 1 + 1, 2, none⟩ = some (.int .i64 0) := by rw [hV2]; exact r3
  have q4 : V2.cell? ⟨X + 1 + 1, 3, none⟩ = some (.int .i64 0) := by rw [hV2]; exact r4
  have q5 : V2.cell? ⟨X + 1 + 1, 4, none⟩ = some (.int .i64 0) := by rw [hV2]; exact r5
  have q6 : V2.cell? ⟨X + 1 + 1, 5, none⟩ = some (.int .i64 0) := by rw [hV2]; exact r6
  have q7 : V2.cell? ⟨X + 1 + 1, 6, none⟩ = some (.int .i64 0) := by rw [hV2]; exact r7
  have hq : ∀ j, V2.frozen? ⟨X + 1 + 1, j, none⟩ = false := by rw [hV2]; exact hf
  rw [← hV2]
  clear hV2 r0 r1 r2 r3 r4 r5 r6 r7 hf s0 s1 s2 d0 d1 d2 d3 d4 d5 d6 d7 m0 m1 m2 m3 m4 b0 hbl
  go_wp2_with fail
  refine bodyPost_ret (v := .tuple #[.agg #[.int .i64 3, .int .i64 (i : Int), .int .i64 (nth l i).frm, .int .i64 (nth l i).to, .int .i64 (nth l i).east, .int .i64 (nth l i).north, .int .i64 (nth l i).up], .bool true]) (by simp [results, Try.results15, go_sem, q0, q1, q2, q3, q4, q5, q6, q7]) rfl ⟨rfl, ?_⟩
  exact below_set7 b2 (by omega) _ _ _ _ _ _ _

set_option maxHeartbeats 1000000 in
theorem sback_no (a : Option Addr) (c : Nat) (st : Int) (l : List Lg) (kd ix : Int) (g : Lg) (w : World) (hl : l.length ≤ 1048576) (hlc : l.length ≤ c) (hc63 : c ≤ 9223372036854775807) (ha : ∀ ad, a = some ad → ad.spot = none) (hs : Legs w a l) (h2 : (ddDo ⟨st, l⟩ ⟨kd, ix, g⟩).2 = false) :
    Calls Try.prog 12 #[.agg #[.int .i64 st, .slice a l.length c], (⟨kd, ix, g⟩ : Dd).val] w (DdOut (noDd, false) w) := by
  obtain ⟨x1, x2, x3, x4, x5⟩ := g
  show Calls Try.prog 12 #[.agg #[.int .i64 st, .slice a l.length c], .agg #[.int .i64 kd, .int .i64 ix, .int .i64 x1, .int .i64 x2, .int .i64 x3, .int .i64 x4, .int .i64 x5]] w _
  go_enter Try.func12, Try.ntmps12
  go_wp2_with fail
  obtain ⟨X, hX⟩ : ∃ X, w.heap.size = X := ⟨_, rfl⟩
  obtain ⟨W0, hW0⟩ : ∃ W0, W0 = ((w.alloc (.cells #[.int .i64 st, .slice a l.length c] 37)).alloc (.cells #[.int .i64 kd, .int .i64 ix, .int .i64 x1, .int .i64 x2, .int .i64 x3, .int .i64 x4, .int .i64 x5] 32)).alloc (.cells #[.int .i64 0, .int .i64 0, .int .i64 0, .int .i64 0, .int .i64 0, .int .i64 0, .int .i64 0] 32) := ⟨_, rfl⟩
  have F0 : FrB W0 X st (.slice a l.length c) ⟨kd, ix, ⟨x1, x2, x3, x4, x5⟩⟩ := by rw [hW0, ← hX]; exact FrB.new w st _ ⟨kd, ix, ⟨x1, x2, x3, x4, x5⟩⟩ _ _ _
  have b0 : Below w.heap.size w W0 := by rw [hW0]; exact (by repeat (first | with_reducible assumption | exact Below.refl _ _ | refine below_drewN ?_ _ | refine Below.drew ?_ | refine Below.alloc ?_ (by first | omega | (simp; done) | (simp; omega)) _ | refine Below.setCell ?_ (by first | omega | (simp; done) | (simp; omega)) _))
  rw [hX, ← hW0]
  clear hW0
  refine (sdeedDo_any _ _ st l ⟨kd, ix, ⟨x1, x2, x3, x4, x5⟩⟩ _ hl hlc hc63 ha (hs.below b0)).mono ?_
  rintro e w1 ⟨v, rfl, o1, b1⟩
  obtain ⟨av, cv, rfl⟩ := o1.sl
  replace F0 := F0.below b1
  replace b0 := b0.trans (b1.mono b0.size)
  have hwX : w.heap.size ≤ X := by omega
  clear b1 o1 W0 hX
  obtain ⟨s0, s1, s2, -, -⟩ := F0.s
  obtain ⟨d0, d1, d2, d3, d4, d5, d6, d7⟩ := F0.d
  simp only at d1 d2 d3 d4 d5 d6 d7
  obtain ⟨⟨r0, r1, r2, r3, r4, r5, r6, r7⟩, hf⟩ := F0.r
  simp only [noDd, noLeg] at r1 r2 r3 r4 r5 r6 r7
  rw [h2]
  generalize (ddDo ⟨st, l⟩ ⟨kd, ix, ⟨x1, x2, x3, x4, x5⟩⟩).1 = S1
  clear h2 F0
  go_wp2_with fail
  refine bodyPost_ret (v := .tuple #[.agg #[.int .i64 (0), .int .i64 (0), .int .i64 (0), .int .i64 (0), .int .i64 (0), .int .i64 (0), .int .i64 (0)], .bool false]) (by simp [results, Try.results12, go_sem, r0, r1, r2, r3, r4, r5, r6, r7]) rfl ⟨rfl, ?_⟩
  exact below_al (below_set7 b0 (by omega) _ _ _ _ _ _ _) _

set_option maxHeartbeats 1000000 in
theorem sback0 (a : Option Addr) (c : Nat) (st : Int) (l : List Lg) (ix : Int) (g : Lg) (w : World) (hl : l.length ≤ 1048576) (hlc : l.length ≤ c) (hc63 : c ≤ 9223372036854775807) (ha : ∀ ad, a = some ad → ad.spot = none) (hs : Legs w a l) (h2 : (ddDo ⟨st, l⟩ ⟨0, ix, g⟩).2 = true) :
    Calls Try.prog 12 #[.agg #[.int .i64 st, .slice a l.length c], (⟨0, ix, g⟩ : Dd).val] w (DdOut (⟨1, ix, noLeg⟩, true) w) := by
  obtain ⟨x1, x2, x3, x4, x5⟩ := g
  show Calls Try.prog 12 #[.agg #[.int .i64 st, .slice a l.length c], .agg #[.int .i64 0, .int .i64 ix, .int .i64 x1, .int .i64 x2, .int .i64 x3, .int .i64 x4, .int .i64 x5]] w _
  go_enter Try.func12, Try.ntmps12
  go_wp2_with fail
  obtain ⟨X, hX⟩ : ∃ X, w.heap.size = X := ⟨_, rfl⟩
  obtain ⟨W0, hW0⟩ : ∃ W0, W0 = ((w.alloc (.cells #[.int .i64 st, .slice a l.length c] 37)).alloc (.cells #[.int .i64 0, .int .i64 ix, .int .i64 x1, .int .i64 x2, .int .i64 x3, .int .i64 x4, .int .i64 x5] 32)).alloc (.cells #[.int .i64 0, .int .i64 0, .int .i64 0, .int .i64 0, .int .i64 0, .int .i64 0, .int .i64 0] 32) := ⟨_, rfl⟩
  have F0 : FrB W0 X st (.slice a l.length c) ⟨0, ix, ⟨x1, x2, x3, x4, x5⟩⟩ := by rw [hW0, ← hX]; exact FrB.new w st _ ⟨0, ix, ⟨x1, x2, x3, x4, x5⟩⟩ _ _ _
  have b0 : Below w.heap.size w W0 := by rw [hW0]; exact (by repeat (first | with_reducible assumption | exact Below.refl _ _ | refine below_drewN ?_ _ | refine Below.drew ?_ | refine Below.alloc ?_ (by first | omega | (simp; done) | (simp; omega)) _ | refine Below.setCell ?_ (by first | omega | (simp; done) | (simp; omega)) _))
  rw [hX, ← hW0]
  clear hW0
  refine (sdeedDo_any _ _ st l ⟨0, ix, ⟨x1, x2, x3, x4, x5⟩⟩ _ hl hlc hc63 ha (hs.below b0)).mono ?_
  rintro e w1 ⟨v, rfl, o1, b1⟩
  obtain ⟨av, cv, rfl⟩ := o1.sl
  replace F0 := F0.below b1
  replace b0 := b0.trans (b1.mono b0.size)
  have hwX : w.heap.size ≤ X := by omega
  clear b1 o1 W0 hX
  obtain ⟨s0, s1, s2, -, -⟩ := F0.s
  obtain ⟨d0, d1, d2, d3, d4, d5, d6, d7⟩ := F0.d
  simp only at d1 d2 d3 d4 d5 d6 d7
  obtain ⟨⟨r0, r1, r2, r3, r4, r5, r6, r7⟩, hf⟩ := F0.r
  simp only [noDd, noLeg] at r1 r2 r3 r4 r5 r6 r7
  rw [h2]
  generalize (ddDo ⟨st, l⟩ ⟨0, ix, ⟨x1, x2, x3, x4, x5⟩⟩).1 = S1
  clear h2 F0
  go_wp2_with fail
  refine bodyPost_ret (v := .tuple #[.agg #[.int .i64 (1), .int .i64 (ix), .int .i64 (0), .int .i64 (0), .int .i64 (0), .int .i64 (0), .int .i64 (0)], .bool true]) (by simp [results, Try.results12, go_sem, r0, r1, r2, r3, r4, r5, r6, r7]) rfl ⟨rfl, ?_⟩
  exact below_al (below_set7 b0 (by omega) _ _ _ _ _ _ _) _

set_option maxHeartbeats 1000000 in
theorem sback2 (a : Option Addr) (c : Nat) (st : Int) (l : List Lg) (ix : Int) (g : Lg) (w : World) (hl : l.length ≤ 1048576) (hlc : l.length ≤ c) (hc63 : c ≤ 9223372036854775807) (ha : ∀ ad, a = some ad → ad.spot = none) (hs : Legs w a l) (h2 : (ddDo ⟨st, l⟩ ⟨2, ix, g⟩).2 = true) :
    Calls Try.prog 12 #[.agg #[.int .i64 st, .slice a l.length c], (⟨2, ix, g⟩ : Dd).val] w (DdOut (⟨2, ix, g⟩, true) w) := by
  obtain ⟨x1, x2, x3, x4, x5⟩ := g
  show Calls Try.prog 12 #[.agg #[.int .i64 st, .slice a l.length c], .agg #[.int .i64 2, .int .i64 ix, .int .i64 x1, .int .i64 x2, .int .i64 x3, .int .i64 x4, .int .i64 x5]] w _
  go_enter Try.func12, Try.ntmps12
  go_wp2_with fail
  obtain ⟨X, hX⟩ : ∃ X, w.heap.size = X := ⟨_, rfl⟩
  obtain ⟨W0, hW0⟩ : ∃ W0, W0 = ((w.alloc (.cells #[.int .i64 st, .slice a l.length c] 37)).alloc (.cells #[.int .i64 2, .int .i64 ix, .int .i64 x1, .int .i64 x2, .int .i64 x3, .int .i64 x4, .int .i64 x5] 32)).alloc (.cells #[.int .i64 0, .int .i64 0, .int .i64 0, .int .i64 0, .int .i64 0, .int .i64 0, .int .i64 0] 32) := ⟨_, rfl⟩
  have F0 : FrB W0 X st (.slice a l.length c) ⟨2, ix, ⟨x1, x2, x3, x4, x5⟩⟩ := by rw [hW0, ← hX]; exact FrB.new w st _ ⟨2, ix, ⟨x1, x2, x3, x4, x5⟩⟩ _ _ _
  have b0 : Below w.heap.size w W0 := by rw [hW0]; exact (by repeat (first | with_reducible assumption | exact Below.refl _ _ | refine below_drewN ?_ _ | refine Below.drew ?_ | refine Below.alloc ?_ (by first | omega | (simp; done) | (simp; omega)) _ | refine Below.setCell ?_ (by first | omega | (simp; done) | (simp; omega)) _))
  rw [hX, ← hW0]
  clear hW0
  refine (sdeedDo_any _ _ st l ⟨2, ix, ⟨x1, x2, x3, x4, x5⟩⟩ _ hl hlc hc63 ha (hs.below b0)).mono ?_
  rintro e w1 ⟨v, rfl, o1, b1⟩
  obtain ⟨av, cv, rfl⟩ := o1.sl
  replace F0 := F0.below b1
  replace b0 := b0.trans (b1.mono b0.size)
  have hwX : w.heap.size ≤ X := by omega
  clear b1 o1 W0 hX
  obtain ⟨s0, s1, s2, -, -⟩ := F0.s
  obtain ⟨d0, d1, d2, d3, d4, d5, d6, d7⟩ := F0.d
  simp only at d1 d2 d3 d4 d5 d6 d7
  obtain ⟨⟨r0, r1, r2, r3, r4, r5, r6, r7⟩, hf⟩ := F0.r
  simp only [noDd, noLeg] at r1 r2 r3 r4 r5 r6 r7
  rw [h2]
  generalize (ddDo ⟨st, l⟩ ⟨2, ix, ⟨x1, x2, x3, x4, x5⟩⟩).1 = S1
  clear h2 F0
  go_wp2_with fail
  refine bodyPost_ret (v := .tuple #[.agg #[.int .i64 (2), .int .i64 (ix), .int .i64 (x1), .int .i64 (x2), .int .i64 (x3), .int .i64 (x4), .int .i64 (x5)], .bool true]) (by simp [results, Try.results12, go_sem, r0, r1, r2, r3, r4, r5, r6, r7]) rfl ⟨rfl, ?_⟩
  exact below_al (below_set7 b0 (by omega) _ _ _ _ _ _ _) _

set_option maxHeartbeats 1000000 in
theorem sback4 (a : Option Addr) (c : Nat) (st : Int) (l : List Lg) (ix : Int) (g : Lg) (w : World) (hl : l.length ≤ 1048576) (hlc : l.length ≤ c) (hc63 : c ≤ 9223372036854775807) (ha : ∀ ad, a = some ad → ad.spot = none) (hs : Legs w a l) (h2 : (ddDo ⟨st, l⟩ ⟨4, ix, g⟩).2 = true) :
    Calls Try.prog 12 #[.agg #[.int .i64 st, .slice a l.length c], (⟨4, ix, g⟩ : Dd).val] w (DdOut (⟨5, 0, noLeg⟩, true) w) := by
  obtain ⟨x1, x2, x3, x4, x5⟩ := g
  show Calls Try.prog 12 #[.agg #[.int .i64 st, .slice a l.length c], .agg #[.int .i64 4, .int .i64 ix, .int .i64 x1, .int .i64 x2, .int .i64 x3, .int .i64 x4, .int .i64 x5]] w _
  go_enter Try.func12, Try.ntmps12
  go_wp2_with fail
  obtain ⟨X, hX⟩ : ∃ X, w.heap.size = X := ⟨_, rfl⟩
  obtain ⟨W0, hW0⟩ : ∃ W0, W0 = ((w.alloc (.cells #[.int .i64 st, .slice a l.length c] 37)).alloc (.cells #[.int .i64 4, .int .i64 ix, .int .i64 x1, .int .i64 x2, .int .i64 x3, .int .i64 x4, .int .i64 x5] 32)).alloc (.cells #[.int .i64 0, .int .i64 0, .int .i64 0, .int .i64 0, .int .i64 0, .int .i64 0, .int .i64 0] 32) := ⟨_, rfl⟩
  have F0 : FrB W0 X st (.slice a l.length c) ⟨4, ix, ⟨x1, x2, x3, x4, x5⟩⟩ := by rw [hW0, ← hX]; exact FrB.new w st _ ⟨4, ix, ⟨x1, x2, x3, x4, x5⟩⟩ _ _ _
  have b0 : Below w.heap.size w W0 := by rw [hW0]; exact (by repeat (first | with_reducible assumption | exact Below.refl _ _ | refine below_drewN ?_ _ | refine Below.drew ?_ | refine Below.alloc ?_ (by first | omega | (simp; done) | (simp; omega)) _ | refine Below.setCell ?_ (by first | omega | (simp; done) | (simp; omega)) _))
  rw [hX, ← hW0]
  clear hW0
  refine (sdeedDo_any _ _ st l ⟨4, ix, ⟨x1, x2, x3, x4, x5⟩⟩ _ hl hlc hc63 ha (hs.below b0)).mono ?_
  rintro e w1 ⟨v, rfl, o1, b1⟩
  obtain ⟨av, cv, rfl⟩ := o1.sl
  replace F0 := F0.below b1
  replace b0 := b0.trans (b1.mono b0.size)
  have hwX : w.heap.size ≤ X := by omega
  clear b1 o1 W0 hX
  obtain ⟨s0, s1, s2, -, -⟩ := F0.s
  obtain ⟨d0, d1, d2, d3, d4, d5, d6, d7⟩ := F0.d
  simp only at d1 d2 d3 d4 d5 d6 d7
  obtain ⟨⟨r0, r1, r2, r3, r4, r5, r6, r7⟩, hf⟩ := F0.r
  simp only [noDd, noLeg] at r1 r2 r3 r4 r5 r6 r7
  rw [h2]
  generalize (ddDo ⟨st, l⟩ ⟨4, ix, ⟨x1, x2, x3, x4, x5⟩⟩).1 = S1
  clear h2 F0
  go_wp2_with fail
  refine bodyPost_ret (v := .tuple #[.agg #[.int .i64 (5), .int .i64 (0), .int .i64 (0), .int .i64 (0), .int .i64 (0), .int .i64 (0), .int .i64 (0)], .bool true]) (by simp [results, Try.results12, go_sem, r0, r1, r2, r3, r4, r5, r6, r7]) rfl ⟨rfl, ?_⟩
  exact below_al (below_set7 b0 (by omega) _ _ _ _ _ _ _) _

set_option maxHeartbeats 1000000 in
theorem sback5 (a : Option Addr) (c : Nat) (st : Int) (l : List Lg) (ix : Int) (g : Lg) (w : World) (hl : l.length ≤ 1048576) (hlc : l.length ≤ c) (hc63 : c ≤ 9223372036854775807) (ha : ∀ ad, a = some ad → ad.spot = none) (hs : Legs w a l) (h2 : (ddDo ⟨st, l⟩ ⟨5, ix, g⟩).2 = true) :
    Calls Try.prog 12 #[.agg #[.int .i64 st, .slice a l.length c], (⟨5, ix, g⟩ : Dd).val] w (DdOut (⟨4, 0, noLeg⟩, true) w) := by
  obtain ⟨x1, x2, x3, x4, x5⟩ := g
  show Calls Try.prog 12 #[.agg #[.int .i64 st, .slice a l.length c], .agg #[.int .i64 5, .int .i64 ix, .int .i64 x1, .int .i64 x2, .int .i64 x3, .int .i64 x4, .int .i64 x5]] w _
  go_enter Try.func12, Try.ntmps12
  go_wp2_with fail
  obtain ⟨X, hX⟩ : ∃ X, w.heap.size = X := ⟨_, rfl⟩
  obtain ⟨W0, hW0⟩ : ∃ W0, W0 = ((w.alloc (.cells #[.int .i64 st, .slice a l.length c] 37)).alloc (.cells #[.int .i64 5, .int .i64 ix, .int .i64 x1, .int .i64 x2, .int .i64 x3, .int .i64 x4, .int .i64 x5] 32)).alloc (.cells #[.int .i64 0, .int .i64 0, .int .i64 0, .int .i64 0, .int .i64 0, .int .i64 0, .int .i64 0] 32) := ⟨_, rfl⟩
  have F0 : FrB W0 X st (.slice a l.length c) ⟨5, ix, ⟨x1, x2, x3, x4, x5⟩⟩ := by rw [hW0, ← hX]; exact FrB.new w st _ ⟨5, ix, ⟨x1, x2, x3, x4, x5⟩⟩ _ _ _
  have b0 : Below w.heap.size w W0 := by rw [hW0]; exact (by repeat (first | with_reducible assumption | exact Below.refl _ _ | refine below_drewN ?_ _ | refine Below.drew ?_ | refine Below.alloc ?_ (by first | omega | (simp; done) | (simp; omega)) _ | refine Below.setCell ?_ (by first | omega | (simp; done) | (simp; omega)) _))
  rw [hX, ← hW0]
  clear hW0
  refine (sdeedDo_any _ _ st l ⟨5, ix, ⟨x1, x2, x3, x4, x5⟩⟩ _ hl hlc hc63 ha (hs.below b0)).mono ?_
  rintro e w1 ⟨v, rfl, o1, b1⟩
  obtain ⟨av, cv, rfl⟩ := o1.sl
  replace F0 := F0.below b1
  replace b0 := b0.trans (b1.mono b0.size)
  have hwX : w.heap.size ≤ X := by omega
  clear b1 o1 W0 hX
  obtain ⟨s0, s1, s2, -, -⟩ := F0.s
  obtain ⟨d0, d1, d2, d3, d4, d5, d6, d7⟩ := F0.d
  simp only at d1 d2 d3 d4 d5 d6 d7
  obtain ⟨⟨r0, r1, r2, r3, r4, r5, r6, r7⟩, hf⟩ := F0.r
  simp only [noDd, noLeg] at r1 r2 r3 r4 r5 r6 r7
  rw [h2]
  generalize (ddDo ⟨st, l⟩ ⟨5, ix, ⟨x1, x2, x3, x4, x5⟩⟩).1 = S1
  clear h2 F0
  go_wp2_with fail
  refine bodyPost_ret (v := .tuple #[.agg #[.int .i64 (4), .int .i64 (0), .int .i64 (0), .int .i64 (0), .int .i64 (0), .int .i64 (0), .int .i64 (0)], .bool true]) (by simp [results, Try.results12, go_sem, r0, r1, r2, r3, r4, r5, r6, r7]) rfl ⟨rfl, ?_⟩
  exact below_al (below_set7 b0 (by omega) _ _ _ _ _ _ _) _

set_option maxHeartbeats 1000000 in
theorem sback1 (a : Option Addr) (c : Nat) (st : Int) (l : List Lg) (i : Nat) (hi : i < l.length) (g : Lg) (w : World) (hl : l.length ≤ 1048576) (hlc : l.length ≤ c) (hc63 : c ≤ 9223372036854775807) (ha : ∀ ad, a = some ad → ad.spot = none) (hs : Legs w a l) (h2 : (ddDo ⟨st, l⟩ ⟨1, (i : Int), g⟩).2 = true) (hl9 : l.length ≤ 9) :
    Calls Try.prog 12 #[.agg #[.int .i64 st, .slice a l.length c], (⟨1, (i : Int), g⟩ : Dd).val] w (DdOut (⟨0, (i : Int), nth l i⟩, true) w) := by
  obtain ⟨x1, x2, x3, x4, x5⟩ := g
  show Calls Try.prog 12 #[.agg #[.int .i64 st, .slice a l.length c], .agg #[.int .i64 1, .int .i64 (i : Int), .int .i64 x1, .int .i64 x2, .int .i64 x3, .int .i64 x4, .int .i64 x5]] w _
  have hii : (i : Int) < (l.length : Int) := by omega
  have hi0 : (0 : Int) ≤ (i : Int) := by omega
  go_enter Try.func12, Try.ntmps12
  go_wp2_with fail
  obtain ⟨X, hX⟩ : ∃ X, w.heap.size = X := ⟨_, rfl⟩
  obtain ⟨W0, hW0⟩ : ∃ W0, W0 = ((w.alloc (.cells #[.int .i64 st, .slice a l.length c] 37)).alloc (.cells #[.int .i64 1, .int .i64 (i : Int), .int .i64 x1, .int .i64 x2, .int .i64 x3, .int .i64 x4, .int .i64 x5] 32)).alloc (.cells #[.int .i64 0, .int .i64 0, .int .i64 0, .int .i64 0, .int .i64 0, .int .i64 0, .int .i64 0] 32) := ⟨_, rfl⟩
  have F0 : FrB W0 X st (.slice a l.length c) ⟨1, (i : Int), ⟨x1, x2, x3, x4, x5⟩⟩ := by rw [hW0, ← hX]; exact FrB.new w st _ ⟨1, (i : Int), ⟨x1, x2, x3, x4, x5⟩⟩ _ _ _
  have b0 : Below w.heap.size w W0 := by rw [hW0]; exact (by repeat (first | with_reducible assumption | exact Below.refl _ _ | refine below_drewN ?_ _ | refine Below.drew ?_ | refine Below.alloc ?_ (by first | omega | (simp; done) | (simp; omega)) _ | refine Below.setCell ?_ (by first | omega | (simp; done) | (simp; omega)) _))
  rw [hX, ← hW0]
  clear hW0
  refine (sdeedDo_any _ _ st l ⟨1, (i : Int), ⟨x1, x2, x3, x4, x5⟩⟩ _ hl hlc hc63 ha (hs.below b0)).mono ?_
  rintro e w1 ⟨v, rfl, o1, b1⟩
  obtain ⟨av, cv, rfl⟩ := o1.sl
  replace F0 := F0.below b1
  replace b0 := b0.trans (b1.mono b0.size)
  have hwX : w.heap.size ≤ X := by omega
  clear b1 o1 W0 hX
  obtain ⟨s0, s1, s2, -, -⟩ := F0.s
  obtain ⟨d0, d1, d2, d3, d4, d5, d6, d7⟩ := F0.d
  simp only at d1 d2 d3 d4 d5 d6 d7
  obtain ⟨⟨r0, r1, r2, r3, r4, r5, r6, r7⟩, hf⟩ := F0.r
  simp only [noDd, noLeg] at r1 r2 r3 r4 r5 r6 r7
  rw [h2]
  generalize (ddDo ⟨st, l⟩ ⟨1, (i : Int), ⟨x1, x2, x3, x4, x5⟩⟩).1 = S1
  clear h2 s0 s1 s2 d0 d1 d2 d3 d4 d5 d6 d7 r0 r1 r2 r3 r4 r5 r6 r7 hf
  obtain ⟨d0, d1, -, -, -, -, -, -⟩ := F0.d
  simp only at d1
  go_wp2_with fail
  obtain ⟨V, hV⟩ : ∃ V, V = w1.alloc (.cells #[.int .i64 S1.st, .slice av S1.legs.length cv] 37) := ⟨_, rfl⟩
  have bV : Below w1.heap.size w1 V := by rw [hV]; exact (by repeat (first | with_reducible assumption | exact Below.refl _ _ | refine below_drewN ?_ _ | refine Below.drew ?_ | refine Below.alloc ?_ (by first | omega | (simp; done) | (simp; omega)) _ | refine Below.setCell ?_ (by first | omega | (simp; done) | (simp; omega)) _))
  rw [← hV]
  replace F0 := F0.below bV
  replace b0 := b0.trans (bV.mono b0.size)
  clear hV bV d0 d1
  generalize w1.heap.size = Y1
  obtain ⟨bl, off, hae, hbl, m0, m1, m2, m3, m4⟩ := Legs.at (hs.below b0) hi
  cases hae
  have hblw : bl < w.heap.size := by
    obtain ⟨_, _, e9, hb9, -⟩ := Legs.at hs hi
    cases e9
    exact hb9
  obtain ⟨s0, s1, s2, -, -⟩ := F0.s
  obtain ⟨d0, d1, d2, d3, d4, d5, d6, d7⟩ := F0.d
  simp only at d1 d2 d3 d4 d5 d6 d7
  obtain ⟨⟨r0, r1, r2, r3, r4, r5, r6, r7⟩, hf⟩ := F0.r
  simp only [noDd, noLeg] at r1 r2 r3 r4 r5 r6 r7
  clear F0
  go_still_tail 9, (by kernel_rfl)
  change wpList _ _ _ _ _ V.drew
  obtain ⟨V2, hV2⟩ : ∃ V2, V2 = V.drew := ⟨_, rfl⟩
  have b2 : Below w.heap.size w V2 := by rw [hV2]; exact b0.drew
  have q0 : X + 1 + 1 < V2.heap.size := by rw [hV2]; exact r0
  have q1 : V2.cell? ⟨X + 1 + 1, 0, none⟩ = some (.int .i64 0) := by rw [hV2]; exact r1
  have q2 : V2.cell? ⟨X + 1 + 1, 1, none⟩ = some (.int .i64 0) := by rw [hV2]; exact r2
  have q3 : V2.cell? ⟨X + 1 + 1, 2, none⟩ = some (.int .i64 0) := by rw [hV2]; exact r3
  have q4 : V2.cell? ⟨X + 1 + 1, 3, none⟩ = some (.int .i64 0) := by rw [hV2]; exact r4
  have q5 : V2.cell? ⟨X + 1 + 1, 4, none⟩ = some (.int .i64 0) := by rw [hV2]; exact r5
  have q6 : V2.cell? ⟨X + 1 + 1, 5, none⟩ = some (.int .i64 0) := by rw [hV2]; exact r6
  have q7 : V2.cell? ⟨X + 1 + 1, 6, none⟩ = some (.int .i64 0) := by rw [hV2]; exact r7
  have hq : ∀ j, V2.frozen? ⟨X + 1 + 1, j, none⟩ = false := by rw [hV2]; exact hf
  rw [← hV2]
  clear hV2 r0 r1 r2 r3 r4 r5 r6 r7 hf s0 s1 s2 d0 d1 d2 d3 d4 d5 d6 d7 m0 m1 m2 m3 m4 b0 hbl
  go_wp2_with fail
  refine bodyPost_ret (v := .tuple #[.agg #[.int .i64 0, .int .i64 (i : Int), .int .i64 (nth l i).frm, .int .i64 (nth l i).to, .int .i64 (nth l i).east, .int .i64 (nth l i).north, .int .i64 (nth l i).up], .bool true]) (by simp [results, Try.results12, go_sem, q0, q1, q2, q3, q4, q5, q6, q7]) rfl ⟨rfl, ?_⟩
  exact below_set7 b2 (by omega) _ _ _ _ _ _ _

set_option maxHeartbeats 1000000 in
theorem sback3 (a : Option Addr) (c : Nat) (st : Int) (l : List Lg) (i : Nat) (hi : i < l.length) (g : Lg) (w : World) (hl : l.length ≤ 1048576) (hlc : l.length ≤ c) (hc63 : c ≤ 9223372036854775807) (ha : ∀ ad, a = some ad → ad.spot = none) (hs : Legs w a l) (h2 : (ddDo ⟨st, l⟩ ⟨3, (i : Int), g⟩).2 = true) (hl9 : l.length ≤ 9) :
    Calls Try.prog 12 #[.agg #[.int .i64 st, .slice a l.length c], (⟨3, (i : Int), g⟩ : Dd).val] w (DdOut (⟨3, (i : Int), nth l i⟩, true) w) := by
  obtain ⟨x1, x2, x3, x4, x5⟩ := g
  show Calls Try.prog 12 #[.agg #[.int .i64 st, .slice a l.length c], .agg #[.int .i64 3, .int .i64 (i : Int), .int .i64 x1, .int .i64 x2, .int .i64 x3, .int .i64 x4, .int .i64 x5]] w _
  have hii : (i : Int) < (l.length : Int) := by omega
  have hi0 : (0 : Int) ≤ (i : Int) := by omega
  go_enter Try.func12, Try.ntmps12
  go_wp2_with fail
  obtain ⟨X, hX⟩ : ∃ X, w.heap.size = X := ⟨_, rfl⟩
  obtain ⟨W0, hW0⟩ : ∃ W0, W0 = ((w.alloc (.cells #[.int .i64 st, .slice a l.length c] 37)).alloc (.cells #[.int .i64 3, .int .i64 (i : Int), .int .i64 x1, .int .i64 x2, .int .i64 x3, .int .i64 x4, .int .i64 x5] 32)).alloc (.cells #[.int .i64 0, .int .i64 0, .int .i64 0, .int .i64 0, .int .i64 0, .int .i64 0, .int .i64 0] 32) := ⟨_, rfl⟩
  have F0 : FrB W0 X st (.slice a l.length c) ⟨3, (i : Int), ⟨x1, x2, x3, x4, x5⟩⟩ := by rw [hW0, ← hX]; exact FrB.new w st _ ⟨3, (i : Int), ⟨x1, x2, x3, x4, x5⟩⟩ _ _ _
  have b0 : Below w.heap.size w W0 := by rw [hW0]; exact (by repeat (first | with_reducible assumption | exact Below.refl _ _ | refine below_drewN ?_ _ | refine Below.drew ?_ | refine Below.alloc ?_ (by first | omega | (simp; done) | (simp; omega)) _ | refine Below.setCell ?_ (by first | omega | (simp; done) | (simp; omega)) _))
  rw [hX, ← hW0]
  clear hW0
  refine (sdeedDo_any _ _ st l ⟨3, (i : Int), ⟨x1, x2, x3, x4, x5⟩⟩ _ hl hlc hc63 ha (hs.below b0)).mono ?_
  rintro e w1 ⟨v, rfl, o1, b1⟩
  obtain ⟨av, cv, rfl⟩ := o1.sl
  replace F0 := F0.below b1
  replace b0 := b0.trans (b1.mono b0.size)
  have hwX : w.heap.size ≤ X := by omega
  clear b1 o1 W0 hX
  obtain ⟨s0, s1, s2, -, -⟩ := F0.s
  obtain ⟨d0, d1, d2, d3, d4, d5, d6, d7⟩ := F0.d
  simp only at d1 d2 d3 d4 d5 d6 d7
  obtain ⟨⟨r0, r1, r2, r3, r4, r5, r6, r7⟩, hf⟩ := F0.r
  simp only [noDd, noLeg] at r1 r2 r3 r4 r5 r6 r7
  rw [h2]
  generalize (ddDo ⟨st, l⟩ ⟨3, (i : Int), ⟨x1, x2, x3, x4, x5⟩⟩).1 = S1
  clear h2 s0 s1 s2 d0 d1 d2 d3 d4 d5 d6 d7 r0 r1 r2 r3 r4 r5 r6 r7 hf
  obtain ⟨d0, d1, -, -, -, -, -, -⟩ := F0.d
  simp only at d1
  go_wp2_with fail
  obtain ⟨V, hV⟩ : ∃ V, V = w1.alloc (.cells #[.int .i64 S1.st, .slice av S1.legs.length cv] 37) := ⟨_, rfl⟩
  have bV : Below w1.heap.size w1 V := by rw [hV]; exact (by repeat (first | with_reducible assumption | exact Below.refl _ _ | refine below_drewN ?_ _ | refine Below.drew ?_ | refine Below.alloc ?_ (by first | omega | (simp; done) | (simp; omega)) _ | refine Below.setCell ?_ (by first | omega | (simp; done) | (simp; omega)) _))
  rw [← hV]
  replace F0 := F0.below bV
  replace b0 := b0.trans (bV.mono b0.size)
  clear hV bV d0 d1
  generalize w1.heap.size = Y1
  obtain ⟨bl, off, hae, hbl, m0, m1, m2, m3, m4⟩ := Legs.at (hs.below b0) hi
  cases hae
  have hblw : bl < w.heap.size := by
    obtain ⟨_, _, e9, hb9, -⟩ := Legs.at hs hi
    cases e9
    exact hb9
  obtain ⟨s0, s1, s2, -, -⟩ := F0.s
  obtain ⟨d0, d1, d2, d3, d4, d5, d6, d7⟩ := F0.d
  simp only at d1 d2 d3 d4 d5 d6 d7
  obtain ⟨⟨r0, r1, r2, r3, r4, r5, r6, r7⟩, hf⟩ := F0.r
  simp only [noDd, noLeg] at r1 r2 r3 r4 r5 r6 r7
  clear F0
  go_still_tail 9, (by kernel_rfl)
  change wpList _ _ _ _ _ V.drew
  obtain ⟨V2, hV2⟩ : ∃ V2, V2 = V.drew := ⟨_, rfl⟩
  have b2 : Below w.heap.size w V2 := by rw [hV2]; exact b0.drew
  have q0 : X + 1 + 1 < V2.heap.size := by rw [hV2]; exact r0
  have q1 : V2.cell? ⟨X + 1 + 1, 0, none⟩ = some (.int .i64 0) := by rw [hV2]; exact r1
  have q2 : V2.cell? ⟨X + 1 + 1, 1, none⟩ = some (.int .i64 0) := by rw [hV2]; exact r2
  have q3 : V2.cell? ⟨X + 1 + 1, 2, none⟩ = some (.int .i64 0) := by rw [hV2]; exact r3
  have q4 : V2.cell? ⟨X + 1 + 1, 3, none⟩ = some (.int .i64 0) := by rw [hV2]; exact r4
  have q5 : V2.cell? ⟨X + 1 + 1, 4, none⟩ = some (.int .i64 0) := by rw [hV2]; exact r5
  have q6 : V2.cell? ⟨X + 1 + 1, 5, none⟩ = some (.int .i64 0) := by rw [hV2]; exact r6
  have q7 : V2.cell? ⟨X + 1 + 1, 6, none⟩ = some (.int .i64 0) := by rw [hV2]; exact r7
  have hq : ∀ j, V2.frozen? ⟨X + 1 + 1, j, none⟩ = false := by rw [hV2]; exact hf
  rw [← hV2]
  clear hV2 r0 r1 r2 r3 r4 r5 r6 r7 hf s0 s1 s2 d0 d1 d2 d3 d4 d5 d6 d7 m0 m1 m2 m3 m4 b0 hbl
  go_wp2_with fail
  refine bodyPost_ret (v := .tuple #[.agg #[.int .i64 3, .int .i64 (i : Int), .int .i64 (nth l i).frm, .int .i64 (nth l i).to, .int .i64 (nth l i).east, .int .i64 (nth l i).north, .int .i64 (nth l i).up], .bool true]) (by simp [results, Try.results12, go_sem, q0, q1, q2, q3, q4, q5, q6, q7]) rfl ⟨rfl, ?_⟩
  exact below_set7 b2 (by omega) _ _ _ _ _ _ _
end Go.Proofs.Ytgggbapcpjfljaa
