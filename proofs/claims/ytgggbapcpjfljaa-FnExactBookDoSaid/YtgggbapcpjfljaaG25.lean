/- Walks: copies of books. -/
import Derived.Test.YtgggbapcpjfljaaG24
import Derived.Deep.RegionHeld3
import Derived.ArgAppend
namespace Go.Proofs.Ytgggbapcpjfljaa
open Go Go.RowKit Go.Sort

theorem alloc_le (w : World) (o : Obj) : w.heap.size ≤ (w.alloc o).heap.size := by simp
theorem drew_le (w : World) : w.heap.size ≤ w.drew.heap.size := Nat.le_refl _

theorem copy_end {w W wz : World} {X B1 B2 B3 : Nat} {st : Int} {u0 u1 u2 u3 v1 v2 v3 : Value} {b : Bk} (hX : w.heap.size ≤ X) (hW : X + 1 < W.heap.size) (R : At wz (X + 1) [u0, u1, u2, u3]) (o1 : OwnL wz B1 v1 b.first.legs) (o2 : OwnD wz B2 v2 b.done) (o3 : OwnD wz B3 v3 b.undone)
    (h1 : W.heap.size ≤ B1) (h2 : W.heap.size ≤ B2) (h3 : W.heap.size ≤ B3) (n12 : ∀ k, v1.ownBlock = some k → v2.ownBlock ≠ some k) (n13 : ∀ k, v1.ownBlock = some k → v3.ownBlock ≠ some k) (n23 : ∀ k, v2.ownBlock = some k → v3.ownBlock ≠ some k) (hb : Below (X + 1) W wz) (b0 : Below w.heap.size w W) :
    At ((((wz.setCell ⟨X + 1, 0, none⟩ (.int .i64 st)).setCell ⟨X + 1, 1, none⟩ v1).setCell ⟨X + 1, 2, none⟩ v2).setCell ⟨X + 1, 3, none⟩ v3) (X + 1) [.int .i64 st, v1, v2, v3] ∧
    BkOwn ((((wz.setCell ⟨X + 1, 0, none⟩ (.int .i64 st)).setCell ⟨X + 1, 1, none⟩ v1).setCell ⟨X + 1, 2, none⟩ v2).setCell ⟨X + 1, 3, none⟩ v3) w.heap.size v1 v2 v3 b ∧
    Below w.heap.size w ((((wz.setCell ⟨X + 1, 0, none⟩ (.int .i64 st)).setCell ⟨X + 1, 1, none⟩ v1).setCell ⟨X + 1, 2, none⟩ v2).setCell ⟨X + 1, 3, none⟩ v3) := by
  refine ⟨R.sets4 _ _ _ _, ⟨?_, ?_, ?_, n12, n13, n23⟩, ?_⟩
  · exact ((((o1.setCell (p := ⟨X + 1, 0, none⟩) (by show X + 1 < _; omega) _).setCell (p := ⟨X + 1, 1, none⟩) (by show X + 1 < _; omega) _).setCell (p := ⟨X + 1, 2, none⟩) (by show X + 1 < _; omega) _).setCell (p := ⟨X + 1, 3, none⟩) (by show X + 1 < _; omega) _).mono (by omega)
  · exact ((((o2.setCell (p := ⟨X + 1, 0, none⟩) (by show X + 1 < _; omega) _).setCell (p := ⟨X + 1, 1, none⟩) (by show X + 1 < _; omega) _).setCell (p := ⟨X + 1, 2, none⟩) (by show X + 1 < _; omega) _).setCell (p := ⟨X + 1, 3, none⟩) (by show X + 1 < _; omega) _).mono (by omega)
  · exact ((((o3.setCell (p := ⟨X + 1, 0, none⟩) (by show X + 1 < _; omega) _).setCell (p := ⟨X + 1, 1, none⟩) (by show X + 1 < _; omega) _).setCell (p := ⟨X + 1, 2, none⟩) (by show X + 1 < _; omega) _).setCell (p := ⟨X + 1, 3, none⟩) (by show X + 1 < _; omega) _).mono (by omega)
  · have hb' := b0.trans (hb.mono (by omega))
    exact (((hb'.setCell (p := ⟨X + 1, 0, none⟩) (by show _ ≤ X + 1; omega) _).setCell (p := ⟨X + 1, 1, none⟩) (by show _ ≤ X + 1; omega) _).setCell (p := ⟨X + 1, 2, none⟩) (by show _ ≤ X + 1; omega) _).setCell (p := ⟨X + 1, 3, none⟩) (by show _ ≤ X + 1; omega) _

set_option maxHeartbeats 4000000 in
theorem bookCopy_any (a1 a2 a3 : Option Addr) (c1 c2 c3 : Nat) (st : Int) (l : List Lg) (d u : List Dd) (w : World) (hl : l.length ≤ 1048576) (hd : d.length ≤ 1048576) (hu : u.length ≤ 1048576) (hs : RdB w a1 a2 a3 ⟨⟨st, l⟩, d, u⟩) :
    Calls Try.prog 68 #[.agg #[.int .i64 st, .slice a1 l.length c1, .slice a2 d.length c2, .slice a3 u.length c3]] w (BkRet ⟨⟨st, l⟩, d, u⟩ w) := by
  obtain ⟨X, hX⟩ : ∃ X, w.heap.size = X := ⟨_, rfl⟩
  obtain ⟨W1, hW1⟩ : ∃ W1, W1 = (w.alloc (.cells #[.int .i64 st, .slice a1 l.length c1, .slice a2 d.length c2, .slice a3 u.length c3] 60)).alloc (.cells #[.int .i64 0, .slice none 0 0, .slice none 0 0, .slice none 0 0] 60) := ⟨_, rfl⟩
  have G : At W1 X [.int .i64 st, .slice a1 l.length c1, .slice a2 d.length c2, .slice a3 u.length c3] := by rw [hW1]; exact (At.new _ _ _ hX.symm rfl).alloc _
  have R : At W1 (X + 1) [.int .i64 0, .slice none 0 0, .slice none 0 0, .slice none 0 0] := by rw [hW1]; exact At.new _ _ _ (by simp [hX]) rfl
  have b0 : Below w.heap.size w W1 := by rw [hW1]; exact (by repeat (first | with_reducible assumption | exact Below.refl _ _ | refine below_drewN ?_ _ | refine Below.drew ?_ | refine Below.alloc ?_ (by first | omega | (simp; done) | (simp; omega)) _ | refine Below.setCell ?_ (by first | omega | (simp; done) | (simp; omega)) _))
  go_enter Try.func68, Try.ntmps68
  go_wp2_with fail
  rw [← hW1]
  clear hW1
  obtain ⟨s0, s1, s2, s3, s4, -⟩ := G.facts4
  have hX2 : X + 1 < W1.heap.size := R.lt
  have hX1 : X + 1 ≤ W1.heap.size := by omega
  have rl := Lib.hid (show ∀ W', Below (X + 1) W1 W' → Legs W' a1 l from fun W' h => hs.l.below (b0.trans (h.mono (by omega))))
  have rd := Lib.hid (show ∀ W', Below (X + 1) W1 W' → Dds W' a2 d from fun W' h => hs.d.below (b0.trans (h.mono (by omega))))
  have ru := Lib.hid (show ∀ W', Below (X + 1) W1 W' → Dds W' a3 u from fun W' h => hs.u.below (b0.trans (h.mono (by omega))))
  have sX : X < X + 1 := by omega
  have hb0 := b0.size
  clear hs
  go_region_held3 (fun w' => Below ((X + 1)) W1 w' ∧ ∀ b o, b < (X + 1) → w'.cell? ⟨b, o, none⟩ = W1.cell? ⟨b, o, none⟩) (exact keptB (by repeat (first | with_reducible assumption | with_reducible exact Below.refl _ _ | with_reducible refine Below.setCell ?_ (by first | omega | (simp; done) | (simp; omega)) _ | with_reducible refine Below.alloc ?_ (by first | omega | (simp; done) | (simp; omega)) _ | with_reducible refine Below.drew ?_)))
    (first
    | (go_at_call 54; refine (surveyCopy_any a1 c1 st l _ hl (rl.out _ (by repeat (first | with_reducible assumption | with_reducible exact Below.refl _ _ | with_reducible refine Below.setCell ?_ (by first | omega | (simp; done) | (simp; omega)) _ | with_reducible refine Below.alloc ?_ (by first | omega | (simp; done) | (simp; omega)) _ | with_reducible refine Below.drew ?_)))).mono ?_; rintro e w5 ⟨v1, rfl, o1, c⟩; obtain ⟨av1, cv1, rfl⟩ := o1.sl; have B5 := kept_nextB hX1 (by repeat (first | with_reducible assumption | with_reducible exact Below.refl _ _ | with_reducible refine Below.setCell ?_ (by first | omega | (simp; done) | (simp; omega)) _ | with_reducible refine Below.alloc ?_ (by first | omega | (simp; done) | (simp; omega)) _ | with_reducible refine Below.drew ?_)) c; have z5 := B5.size; have y5 := c.size; have p1 := fun k hk => o1.lt (k := k) hk; (first | have o2 := o2.below c | skip); (first | have o3 := o3.below c | skip); (first | have R := R.below c | have R := R.drew.below c); obtain ⟨i0, i1, i2, i3, i4, i5⟩ := R.facts4; clear c)
    | (go_at_call 64; refine (cloneDds_any a2 c2 d _ hd (rd.out _ (by repeat (first | with_reducible assumption | with_reducible exact Below.refl _ _ | with_reducible refine Below.setCell ?_ (by first | omega | (simp; done) | (simp; omega)) _ | with_reducible refine Below.alloc ?_ (by first | omega | (simp; done) | (simp; omega)) _ | with_reducible refine Below.drew ?_)))).mono ?_; rintro e w6 ⟨v2, rfl, o2, c⟩; obtain ⟨av2, cv2, rfl⟩ := o2.sl; have B6 := kept_nextB hX1 (by repeat (first | with_reducible assumption | with_reducible exact Below.refl _ _ | with_reducible refine Below.setCell ?_ (by first | omega | (simp; done) | (simp; omega)) _ | with_reducible refine Below.alloc ?_ (by first | omega | (simp; done) | (simp; omega)) _ | with_reducible refine Below.drew ?_)) c; have z6 := B6.size; have y6 := c.size; have p2 := fun k hk => o2.lt (k := k) hk; (first | have o1 := o1.below c | skip); (first | have o3 := o3.below c | skip); (first | have R := R.below c | have R := R.drew.below c); obtain ⟨j0, j1, j2, j3, j4, j5⟩ := R.facts4; clear c)
    | (go_at_call 64; refine (cloneDds_any a3 c3 u _ hu (ru.out _ (by repeat (first | with_reducible assumption | with_reducible exact Below.refl _ _ | with_reducible refine Below.setCell ?_ (by first | omega | (simp; done) | (simp; omega)) _ | with_reducible refine Below.alloc ?_ (by first | omega | (simp; done) | (simp; omega)) _ | with_reducible refine Below.drew ?_)))).mono ?_; rintro e w7 ⟨v3, rfl, o3, c⟩; obtain ⟨av3, cv3, rfl⟩ := o3.sl; have B7 := kept_nextB hX1 (by repeat (first | with_reducible assumption | with_reducible exact Below.refl _ _ | with_reducible refine Below.setCell ?_ (by first | omega | (simp; done) | (simp; omega)) _ | with_reducible refine Below.alloc ?_ (by first | omega | (simp; done) | (simp; omega)) _ | with_reducible refine Below.drew ?_)) c; have z7 := B7.size; have y7 := c.size; have p3 := fun k hk => o3.lt (k := k) hk; (first | have o1 := o1.below c | skip); (first | have o2 := o2.below c | skip); (first | have R := R.below c | have R := R.drew.below c); obtain ⟨k0, k1, k2, k3, k4, k5⟩ := R.facts4; clear c))
  all_goals
    obtain ⟨AE, oE, bE⟩ := copy_end (b := ⟨⟨st, l⟩, d, u⟩) (st := st) (w := w) (W := W1) (by omega) (by omega) R o1 o2 o3 (by first | omega | exact Nat.le_refl _) (by first | omega | exact Nat.le_refl _) (by first | omega | exact Nat.le_refl _) (fun k h1 h2 => by have := p1 k h1; have := p2 k h2; omega) (fun k h1 h2 => by have := p1 k h1; have := p3 k h2; omega) (fun k h1 h2 => by have := p2 k h1; have := p3 k h2; omega) (by assumption) b0
    obtain ⟨f0, f1, f2, f3, f4, -⟩ := AE.facts4
    go_wp2_with fail
    exact bodyPost_ret (v := .agg #[.int .i64 st, .slice av1 l.length cv1, .slice av2 d.length cv2, .slice av3 u.length cv3]) (by simp [results, Try.results68, go_sem, f1, f2, f3, f4]) rfl ⟨_, _, _, rfl, oE, bE⟩

/-! ### append onto an empty literal -/
/-- what comes of it: the literal itself, if nothing was appended, else a new row -/
def App0 {α : Type} (K : Kind α) (T : TypeId) (w : World) (B g : Nat) (v : Value) (ys : List α) : Prop := (ys = [] ∧ v = .slice (some ⟨g, 0, none⟩) 0 0) ∨ KOwn K T w B v ys
section
variable {P : Program} {α : Type} {K : Kind α} {T t : TypeId} {w w' : World} {B g : Nat} {v : Value} {ys : List α}
theorem App0.below (h : App0 K T w B g v ys) (c : Below w.heap.size w w') : App0 K T w' B g v ys := h.imp id fun h => h.below c
theorem App0.rng (h : App0 K T w B g v ys) : ∀ k, v.ownBlock = some k → k = g ∨ (B ≤ k ∧ k < w.heap.size) := by
  intro k hk
  rcases h with ⟨_, rfl⟩ | h
  · cases hk; exact .inl rfl
  · exact .inr (World.ownsRow.lt h k hk)
theorem App0.own {B' : Nat} (h : App0 K T w B g v ys) (hg : w.heap[g]? = some (.cells #[] T (0, 0))) (h1 : B' ≤ g) (h2 : B' ≤ B) : KOwn K T w B' v ys := by
  rcases h with ⟨rfl, rfl⟩ | h
  · refine ⟨by simp [flat_nil], .inr ⟨g, 0, #[], rfl, h1, hg, Nat.le_refl _, by decide, by simp, by simp [flat_nil]⟩⟩
  · exact h.mono h2
theorem run_kApp0 [Inhabited α] (I : KInfo P K T t) (ty : TypeId) {A : Option Addr} (c : Nat) (hy : KRd K w A ys) (hl2 : ys.length ≤ 2097160) :
    ∃ av cv w', (Builtin.append_ #[t, t] ty #[.slice (some ⟨g, 0, none⟩) 0 0, .slice A ys.length c]).run P w = .ok (.slice av ys.length cv) w' ∧ App0 K T w' w.heap.size g (.slice av ys.length cv) ys ∧ Below w.heap.size w w' := by
  obtain ⟨i, z, bytes, hi, hz0, hz1, hz2, hz3, hz4⟩ := I.info
  by_cases h0 : 0 < ys.length
  · obtain ⟨b, o, rfl, _⟩ := hy.addr h0
    obtain ⟨v', w', hr, ho, hg⟩ := run_append_arg_grows (P := P) w t ty T i z K.sz bytes I.und hi hz0 hz1 hz2 hz3 I.pos ⟨g, 0, none⟩ 0 0 [] (by simp) (by simp) ⟨b, o, none⟩ ys.length c (K.flat ys) (flat_length ys) hy.cellsA (by omega) (by unfold maxLen; omega) (Nat.le_trans (Nat.mul_le_mul_left _ hz4) (by omega))
    have h2' : KOwn K T w' w.heap.size v' ys := by unfold KOwn; simpa using ho
    obtain ⟨a, c', rfl⟩ := h2'.sl
    exact ⟨a, c', w', hr, .inr h2', grown_below hg (Nat.le_refl _) fun k hk => by cases hk⟩
  · have e : ys = [] := List.eq_nil_of_length_eq_zero (by omega)
    subst e
    refine ⟨some ⟨g, 0, none⟩, 0, w, ?_, .inl ⟨rfl, rfl⟩, Below.refl _ _⟩
    cases A <;> simp [Builtin.append_, run_underlying I.und, sizeOf, typeInfo, hi, Builtin.lenOf, Builtin.firstCells, storeCells, loadCells, loadCellsFrom]
theorem step_kApp0 [Inhabited α] (I : KInfo P K T t) {ops : Array Oper} {o : Oper} {a : Act} {K' : Act → World → Prop} {Q : Exit → Act → World → Prop} {E : Prop} (s x : Operand) (hg : o.guard = none)
    (hop : o.op = .call { callee := .builtin .append, args := #[s, x], argTypes := #[t, t] }) (g : Nat) (ys : List α) (A : Option Addr) (c : Nat) (hs : a.eval s = .slice (some ⟨g, 0, none⟩) 0 0) (hx : a.eval x = .slice A ys.length c) (hy : KRd K w A ys) (hl2 : ys.length ≤ 2097160)
    (hK : ∀ av cv w', App0 K T w' w.heap.size g (.slice av ys.length cv) ys → Below w.heap.size w w' → K' (a.put o.dst (.slice av ys.length cv)) w') :
    if Region.wanted o (yielded ops a.tmps) = true then Oper.wp P o a w K' Q else E := by
  have hw : Region.wanted o (yielded ops a.tmps) = true := by simp [Region.wanted, hg]
  rw [if_pos hw]
  obtain ⟨av, cv, w', hr, h1, h2⟩ := run_kApp0 (g := g) I o.type c hy hl2
  unfold Oper.wp execOp
  simp only [hop, resolve, invoke, builtin, Sem.run_bind, Sem.run_pure, Result.andThen_ok, List.map_toArray, List.map_cons, List.map_nil, hs, hx, hr]
  exact hK av cv w' h1 h2
end

set_option maxRecDepth 100000 in
set_option maxHeartbeats 16000000 in
theorem l7Copy_any (a1 a2 a3 : Option Addr) (c1 c2 c3 : Nat) (st : Int) (l : List Lg) (d u : List Dd) (w : World) (hl : l.length ≤ 1048576) (hd : d.length ≤ 1048576) (hu : u.length ≤ 1048576) (hs : RdB w a1 a2 a3 ⟨⟨st, l⟩, d, u⟩) :
    Calls Try.prog 67 #[.agg #[.int .i64 st, .slice a1 l.length c1, .slice a2 d.length c2, .slice a3 u.length c3]] w (BkRet ⟨⟨st, l⟩, d, u⟩ w) := by
  obtain ⟨X, hX⟩ : ∃ X, w.heap.size = X := ⟨_, rfl⟩
  obtain ⟨W1, hW1⟩ : ∃ W1, W1 = (w.alloc (.cells #[.int .i64 st, .slice a1 l.length c1, .slice a2 d.length c2, .slice a3 u.length c3] 60)).alloc (.cells #[.int .i64 0, .slice none 0 0, .slice none 0 0, .slice none 0 0] 60) := ⟨_, rfl⟩
  have G : At W1 X [.int .i64 st, .slice a1 l.length c1, .slice a2 d.length c2, .slice a3 u.length c3] := by rw [hW1]; exact (At.new _ _ _ hX.symm rfl).alloc _
  have R : At W1 (X + 1) [.int .i64 0, .slice none 0 0, .slice none 0 0, .slice none 0 0] := by rw [hW1]; exact At.new _ _ _ (by simp [hX]) rfl
  have b0 : Below w.heap.size w W1 := by rw [hW1]; exact (by repeat (first | with_reducible assumption | exact Below.refl _ _ | refine below_drewN ?_ _ | refine Below.drew ?_ | refine Below.alloc ?_ (by first | omega | (simp; done) | (simp; omega)) _ | refine Below.setCell ?_ (by first | omega | (simp; done) | (simp; omega)) _))
  go_enter Try.func67, Try.ntmps67
  go_wp2_with fail
  rw [← hW1]
  clear hW1
  obtain ⟨s0, s1, s2, s3, s4, -⟩ := G.facts4
  have hX2 : X + 1 < W1.heap.size := R.lt
  have hX3 : X + 1 + 1 ≤ W1.heap.size := by omega
  have hX1 : X + 1 ≤ W1.heap.size := by omega
  have rl := Lib.hid (show ∀ W', Below (X + 1) W1 W' → Legs W' a1 l from fun W' h => hs.l.below (b0.trans (h.mono (by omega))))
  have rd := Lib.hid (show ∀ W', Below (X + 1) W1 W' → Dds W' a2 d from fun W' h => hs.d.below (b0.trans (h.mono (by omega))))
  have ru := Lib.hid (show ∀ W', Below (X + 1) W1 W' → Dds W' a3 u from fun W' h => hs.u.below (b0.trans (h.mono (by omega))))
  have rR := Lib.hid (show ∀ W', Below (X + 1 + 1) W1 W' → At W' (X + 1) [.int .i64 0, .slice none 0 0, .slice none 0 0, .slice none 0 0] from fun W' h => R.belowB h (by omega))
  have sX : X < X + 1 := by omega
  have hb0 := b0.size
  clear hs R G
  go_region_held3 (fun w' => Below ((X + 1)) W1 w' ∧ ∀ b o, b < (X + 1) → w'.cell? ⟨b, o, none⟩ = W1.cell? ⟨b, o, none⟩) (exact keptB (by repeat (first | with_reducible assumption | with_reducible exact Below.refl _ _ | with_reducible refine Below.setCell ?_ (by first | omega | (simp; done) | (simp; omega)) _ | with_reducible refine Below.alloc ?_ (by first | omega | (simp; done) | (simp; omega)) _ | with_reducible refine Below.drew ?_)))
    (first
    | (refine step_kApp0 ddI (.tmp 6) (.tmp 8) (by rfl) (by rfl) _ d a2 c2 (by rfl) (by rfl) (rd.out _ (by repeat (first | with_reducible assumption | with_reducible exact Below.refl _ _ | with_reducible refine Below.setCell ?_ (by first | omega | (simp; done) | (simp; omega)) _ | with_reducible refine Below.alloc ?_ (by first | omega | (simp; done) | (simp; omega)) _ | with_reducible refine Below.drew ?_))) (by omega) ?_; rintro av2 cv2 w6 o2 cB; have B6 := kept_nextB hX1 (by repeat (first | with_reducible assumption | with_reducible exact Below.refl _ _ | with_reducible refine Below.setCell ?_ (by first | omega | (simp; done) | (simp; omega)) _ | with_reducible refine Below.alloc ?_ (by first | omega | (simp; done) | (simp; omega)) _ | with_reducible refine Below.drew ?_)) cB; have D6 := kept_nextB hX3 (by repeat (first | with_reducible assumption | with_reducible exact Below.refl _ _ | with_reducible refine Below.setCell ?_ (by first | omega | (simp; done) | (simp; omega)) _ | with_reducible refine Below.alloc ?_ (by first | omega | (simp; done) | (simp; omega)) _ | with_reducible refine Below.drew ?_)) cB; have z6 := B6.size; have y6 := cB.size; have p2 := o2.rng; (first | have o1 := o1.below cB | have o1 := o1.below (al_then cB) | have o1 := o1.below (al_then (al_then cB)) | skip); (first | have o3 := o3.below cB | have o3 := o3.below (al_then cB) | have o3 := o3.below (al_then (al_then cB)) | skip); obtain ⟨j0, j1, j2, j3, j4, j5⟩ := (rR.out _ D6).facts4)
    | (refine step_kApp0 ddI (.tmp 10) (.tmp 12) (by rfl) (by rfl) _ u a3 c3 (by rfl) (by rfl) (ru.out _ (by repeat (first | with_reducible assumption | with_reducible exact Below.refl _ _ | with_reducible refine Below.setCell ?_ (by first | omega | (simp; done) | (simp; omega)) _ | with_reducible refine Below.alloc ?_ (by first | omega | (simp; done) | (simp; omega)) _ | with_reducible refine Below.drew ?_))) (by omega) ?_; rintro av3 cv3 w7 o3 cC; have B7 := kept_nextB hX1 (by repeat (first | with_reducible assumption | with_reducible exact Below.refl _ _ | with_reducible refine Below.setCell ?_ (by first | omega | (simp; done) | (simp; omega)) _ | with_reducible refine Below.alloc ?_ (by first | omega | (simp; done) | (simp; omega)) _ | with_reducible refine Below.drew ?_)) cC; have D7 := kept_nextB hX3 (by repeat (first | with_reducible assumption | with_reducible exact Below.refl _ _ | with_reducible refine Below.setCell ?_ (by first | omega | (simp; done) | (simp; omega)) _ | with_reducible refine Below.alloc ?_ (by first | omega | (simp; done) | (simp; omega)) _ | with_reducible refine Below.drew ?_)) cC; have z7 := B7.size; have y7 := cC.size; have p3 := o3.rng; (first | have o1 := o1.below cC | have o1 := o1.below (al_then cC) | have o1 := o1.below (al_then (al_then cC)) | skip); (first | have o2 := o2.below cC | have o2 := o2.below (al_then cC) | have o2 := o2.below (al_then (al_then cC)) | skip); obtain ⟨k0, k1, k2, k3, k4, k5⟩ := (rR.out _ D7).facts4)
    | (go_at_call 49; refine (l7Survey_any a1 c1 st l _ hl (rl.out _ (by repeat (first | with_reducible assumption | with_reducible exact Below.refl _ _ | with_reducible refine Below.setCell ?_ (by first | omega | (simp; done) | (simp; omega)) _ | with_reducible refine Below.alloc ?_ (by first | omega | (simp; done) | (simp; omega)) _ | with_reducible refine Below.drew ?_)))).mono ?_; rintro e w5 ⟨v1, rfl, o1, cA⟩; obtain ⟨av1, cv1, rfl⟩ := o1.sl; have B5 := kept_nextB hX1 (by repeat (first | with_reducible assumption | with_reducible exact Below.refl _ _ | with_reducible refine Below.setCell ?_ (by first | omega | (simp; done) | (simp; omega)) _ | with_reducible refine Below.alloc ?_ (by first | omega | (simp; done) | (simp; omega)) _ | with_reducible refine Below.drew ?_)) cA; have D5 := kept_nextB hX3 (by repeat (first | with_reducible assumption | with_reducible exact Below.refl _ _ | with_reducible refine Below.setCell ?_ (by first | omega | (simp; done) | (simp; omega)) _ | with_reducible refine Below.alloc ?_ (by first | omega | (simp; done) | (simp; omega)) _ | with_reducible refine Below.drew ?_)) cA; have z5 := B5.size; have y5 := cA.size; have p1 := fun k hk => o1.lt (k := k) hk; (first | have o2 := o2.below cA | have o2 := o2.below (al_then cA) | have o2 := o2.below (al_then (al_then cA)) | skip); (first | have o3 := o3.below cA | have o3 := o3.below (al_then cA) | have o3 := o3.below (al_then (al_then cA)) | skip); obtain ⟨i0, i1, i2, i3, i4, i5⟩ := (rR.out _ D5).facts4))
  all_goals
    clear s0 s1 s2 s3 s4 i0 i1 i2 i3 i4 i5 j0 j1 j2 j3 j4 j5 k0 k1 k2 k3 k4 k5 rl rd ru
    simp at y5 y6 y7
    have O2 := App0.own (B' := W1.heap.size) o2 (by repeat (first | exact Deep.blk_alloc_new _ _ | exact blk_at _ _ _ (by first | rfl | (simp; done) | omega) | refine (Deep.blk_alloc_lt _ _ _ (by first | omega | (simp; done) | (simp; omega))).trans ?_ | refine (cA.block _ (by first | omega | (simp; done) | (simp; omega))).trans ?_ | refine (cB.block _ (by first | omega | (simp; done) | (simp; omega))).trans ?_ | refine (cC.block _ (by first | omega | (simp; done) | (simp; omega))).trans ?_)) (by first | omega | (simp; done) | (simp; omega)) (by first | omega | (simp; done) | (simp; omega))
    have O3 := App0.own (B' := W1.heap.size) o3 (by repeat (first | exact Deep.blk_alloc_new _ _ | exact blk_at _ _ _ (by first | rfl | (simp; done) | omega) | refine (Deep.blk_alloc_lt _ _ _ (by first | omega | (simp; done) | (simp; omega))).trans ?_ | refine (cA.block _ (by first | omega | (simp; done) | (simp; omega))).trans ?_ | refine (cB.block _ (by first | omega | (simp; done) | (simp; omega))).trans ?_ | refine (cC.block _ (by first | omega | (simp; done) | (simp; omega))).trans ?_)) (by first | omega | (simp; done) | (simp; omega)) (by first | omega | (simp; done) | (simp; omega))
    have R := rR.out _ (by assumption)
    obtain ⟨AE, oE, bE⟩ := copy_end (b := ⟨⟨st, l⟩, d, u⟩) (st := st) (w := w) (W := W1) (by omega) (by omega) R o1 O2 O3 (by first | omega | (simp; done) | (simp; omega)) (Nat.le_refl _) (Nat.le_refl _) (fun k h1 h2 => by have a := p1 k h1; have b := p2 k h2; (try simp at a); (try simp at b); omega) (fun k h1 h2 => by have a := p1 k h1; have b := p3 k h2; (try simp at a); (try simp at b); omega) (fun k h1 h2 => by have a := p2 k h1; have b := p3 k h2; (try simp at a); (try simp at b); omega) (by assumption) b0
    obtain ⟨f0, f1, f2, f3, f4, -⟩ := AE.facts4
    go_wp2_with fail
    exact bodyPost_ret (v := .agg #[.int .i64 st, .slice av1 l.length cv1, .slice av2 d.length cv2, .slice av3 u.length cv3]) (by simp [results, Try.results67, go_sem, f1, f2, f3, f4]) rfl ⟨_, _, _, rfl, oE, bE⟩
end Go.Proofs.Ytgggbapcpjfljaa
