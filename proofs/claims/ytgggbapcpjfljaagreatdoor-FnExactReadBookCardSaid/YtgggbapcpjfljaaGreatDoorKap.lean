/- append onto the call's own, whatever the kind of elements: nil, empty or other sources. -/
import Derived.Test.YtgggbapcpjfljaaGreatDoorSvy
import Derived.Deep.RegionLaw
import Derived.Deep.AppendLies
import Derived.OwnWalk
namespace Go.Proofs.YtgggbapcpjfljaaGreatDoor
open Go Go.RowKit

/-- what a program tells of a kind of elements: its type, the type of its slices -/
structure KInfo {α : Type} (P : Program) (K : Kind α) (T t : TypeId) : Prop where
  und : P.underlying t = some (.slice T)
  info : ∃ i z bytes, P.info? T = some i ∧ i.zero = some z ∧ i.size = K.sz ∧ i.bytes = bytes ∧ z.cells.size = K.sz ∧ bytes ≤ 64
  pos : 0 < K.sz

section
variable {P : Program} {α : Type} {K : Kind α} {T t : TypeId}

theorem KOwn.lt {w : World} {B : Nat} {v : Value} {xs : List α} (h : KOwn K T w B v xs) {k : Nat} (hk : v.ownBlock = some k) : B ≤ k ∧ k < w.heap.size := World.ownsRow.lt h k hk

theorem run_kApp [Inhabited α] (I : KInfo P K T t) {w : World} {B : Nat} {v : Value} {xs ys : List α} (ty : TypeId) (hown : KOwn K T w B v xs) {A : Option Addr} (c : Nat) (hy : KRd K w A ys) (hl : xs.length ≤ 2097160) (hl2 : ys.length ≤ 2097160) (hB : B ≤ w.heap.size) :
    ∃ av cv w', (Builtin.append_ #[t, t] ty #[v, .slice A ys.length c]).run P w = .ok (.slice av (xs ++ ys).length cv) w' ∧ KOwn K T w' B (.slice av (xs ++ ys).length cv) (xs ++ ys) ∧ w.grownBy w' v.ownBlock ∧ Below B w w' ∧
      ((Value.slice av (xs ++ ys).length cv).ownBlock = v.ownBlock ∨ (Value.slice av (xs ++ ys).length cv).ownBlock = some w.heap.size) := by
  obtain ⟨i, z, bytes, hi, hz0, hz1, hz2, hz3, hz4⟩ := I.info
  cases A with
  | none =>
    obtain rfl := hy.empty
    obtain ⟨a, c', e, _⟩ := hown.form
    have hrun : (Builtin.append_ #[t, t] ty #[v, .slice none 0 c]).run P w = .ok v w := by
      rcases hown.2 with ⟨rfl, _⟩ | ⟨g, cap, cur, rfl, _, _, hnc, _⟩
      · simp [Builtin.append_, run_underlying I.und, sizeOf, typeInfo, hi, Builtin.lenOf, Builtin.firstCells]
      · simp [Builtin.append_, run_underlying I.und, sizeOf, typeInfo, hi, Builtin.lenOf, Builtin.firstCells, hnc, storeCells]
    refine ⟨a, c', w, ?_, ?_, World.grownBy.refl w _, Below.refl _ _, ?_⟩
    · rw [List.append_nil, ← e]; exact hrun
    · rw [List.append_nil, ← e]; exact hown
    · rw [List.append_nil, ← e]; exact .inl rfl
  | some ad =>
    have hb1 : (xs.length + ys.length) * bytes ≤ 140737488355328 := Nat.le_trans (Nat.mul_le_mul_left _ hz4) (by omega)
    obtain ⟨v', w', hr, h2, h3, h4, h5⟩ := run_append_own_at (P := P) w B t ty T i z K.sz bytes I.und hi hz0 hz1 hz2 hz3 I.pos v xs.length _ hown ad ys.length c (K.flat ys) (flat_length ys) hy.cellsA (flat_one ys) (by unfold maxLen; omega) hb1 hB
    have h2' : KOwn K T w' B v' (xs ++ ys) := by unfold KOwn; rw [List.length_append, flat_append]; exact h2
    obtain ⟨a, c', rfl⟩ := h2'.sl
    exact ⟨a, c', w', hr, h2', h3, grown_below h3 hB fun k hk => (hown.lt hk).1, h5⟩

theorem wpList_kApp [Inhabited α] (I : KInfo P K T t) {w : World} {ops : Array Oper} {rest : List Oper} {o : Oper} {a : Act} {Q : Exit → Act → World → Prop} (s x : Operand) (hw : Region.wanted o (yielded ops a.tmps) = true)
    (hop : o.op = .call { callee := .builtin .append, args := #[s, x], argTypes := #[t, t] }) (B : Nat) (v : Value) (xs ys : List α) (A : Option Addr) (c : Nat) (hs : a.eval s = v)
    (hown : KOwn K T w B v xs) (hx : a.eval x = .slice A ys.length c) (hy : KRd K w A ys) (hl : xs.length ≤ 2097160) (hl2 : ys.length ≤ 2097160) (hB : B ≤ w.heap.size)
    (hK : ∀ av cv w', KOwn K T w' B (.slice av (xs ++ ys).length cv) (xs ++ ys) → w.grownBy w' v.ownBlock → Below B w w' → ((Value.slice av (xs ++ ys).length cv).ownBlock = v.ownBlock ∨ (Value.slice av (xs ++ ys).length cv).ownBlock = some w.heap.size) → wpList P ops Q rest (a.put o.dst (.slice av (xs ++ ys).length cv)) w') : wpList P ops Q (o :: rest) a w := by
  refine BigFrame.wpList_want hw fun K' hK' => ?_
  obtain ⟨av, cv, w', hr, h1, h2, h3, h4⟩ := run_kApp I o.type hown c hy hl hl2 hB
  unfold Oper.wp execOp
  simp only [hop, resolve, invoke, builtin, Sem.run_bind, Sem.run_pure, Result.andThen_ok, List.map_toArray, List.map_cons, List.map_nil, hs, hx, hr]
  exact hK' _ _ (hK av cv w' h1 h2 h3 h4)

theorem step_kApp [Inhabited α] (I : KInfo P K T t) {w : World} {ops : Array Oper} {o : Oper} {a : Act} {K' : Act → World → Prop} {Q : Exit → Act → World → Prop} {E : Prop} (s x : Operand) (hg : o.guard = none)
    (hop : o.op = .call { callee := .builtin .append, args := #[s, x], argTypes := #[t, t] }) (B : Nat) (v : Value) (xs ys : List α) (A : Option Addr) (c : Nat) (hs : a.eval s = v)
    (hown : KOwn K T w B v xs) (hx : a.eval x = .slice A ys.length c) (hy : KRd K w A ys) (hl : xs.length ≤ 2097160) (hl2 : ys.length ≤ 2097160) (hB : B ≤ w.heap.size)
    (hK : ∀ av cv w', KOwn K T w' B (.slice av (xs ++ ys).length cv) (xs ++ ys) → w.grownBy w' v.ownBlock → Below B w w' → ((Value.slice av (xs ++ ys).length cv).ownBlock = v.ownBlock ∨ (Value.slice av (xs ++ ys).length cv).ownBlock = some w.heap.size) → K' (a.put o.dst (.slice av (xs ++ ys).length cv)) w') :
    if Region.wanted o (yielded ops a.tmps) = true then Oper.wp P o a w K' Q else E := by
  have hw : Region.wanted o (yielded ops a.tmps) = true := by simp [Region.wanted, hg]
  rw [if_pos hw]
  obtain ⟨av, cv, w', hr, h1, h2, h3, h4⟩ := run_kApp I o.type hown c hy hl hl2 hB
  unfold Oper.wp execOp
  simp only [hop, resolve, invoke, builtin, Sem.run_bind, Sem.run_pure, Result.andThen_ok, List.map_toArray, List.map_cons, List.map_nil, hs, hx, hr]
  exact hK av cv w' h1 h2 h3 h4

theorem step_kAppZ [Inhabited α] (I : KInfo P K T t) {w : World} {ops : Array Oper} {o : Oper} {a : Act} {K' : Act → World → Prop} {Q : Exit → Act → World → Prop} {E : Prop} (s x : Operand) (hg : o.guard = none)
    (hop : o.op = .call { callee := .builtin .append, args := #[s, x], argTypes := #[t, t] }) (B : Nat) (v : Value) (xs ys zs : List α) (hz : xs ++ ys = zs) (m : Nat) (hm : ys.length = m) (A : Option Addr) (c : Nat) (hs : a.eval s = v)
    (hown : KOwn K T w B v xs) (hx : a.eval x = .slice A m c) (hy : KRd K w A ys) (hl : xs.length ≤ 2097160) (hl2 : ys.length ≤ 2097160) (hB : B ≤ w.heap.size)
    (hK : ∀ av cv w', KOwn K T w' B (.slice av zs.length cv) zs → w.grownBy w' v.ownBlock → Below B w w' → K' (a.put o.dst (.slice av zs.length cv)) w') :
    if Region.wanted o (yielded ops a.tmps) = true then Oper.wp P o a w K' Q else E := by
  subst hz hm
  exact step_kApp I s x hg hop B v xs ys A c hs hown hx hy hl hl2 hB fun av cv w' h1 h2 h3 _ => hK av cv w' h1 h2 h3
end
end Go.Proofs.YtgggbapcpjfljaaGreatDoor
