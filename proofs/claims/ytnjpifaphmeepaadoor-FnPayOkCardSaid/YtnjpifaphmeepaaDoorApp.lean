/- Appending several numbers, or several blocks, to what the call itself has made. At this program's numbers. -/
import Derived.Test.YtnjpifaphmeepaaDoorOwn
import Derived.Test.YtnjpifaphmeepaaDoorPit
import Derived.Maps.AppendAt
namespace Go.Proofs.YtnjpifaphmeepaaDoor
open Go Go.RowKit

theorem Ints.grown {w w' : World} {row : Option Nat} {a : Option Addr} {xs : List Int} (h : Ints w a xs) (hg : w.grownBy w' row) (hne : ∀ b o, 0 < xs.length → a = some ⟨b, o, none⟩ → row ≠ some b) : Ints w' a xs := by
  rcases h with e | ⟨b, off, e, hb, h⟩
  · exact .inl e
  · by_cases h0 : 0 < xs.length
    · refine .inr ⟨b, off, e, Nat.lt_of_lt_of_le hb hg.size, fun k hk => ?_⟩
      have := h k hk
      show w'.cell? ⟨b, off + k * intL.sz, none⟩ = _
      rw [World.cell?_of_block (a := ⟨b, off + k * intL.sz, none⟩) (hg.block b hb (fun e' => hne b off h0 e e'.symm))]; exact this
    · exact .inl (List.eq_nil_of_length_eq_zero (by omega))
theorem Ints.lt {w : World} {b o : Nat} {xs : List Int} (h : Ints w (some ⟨b, o, none⟩) xs) (h0 : 0 < xs.length) : b < w.heap.size := by
  obtain ⟨b', off, e, hb, _⟩ := Ints.at h h0
  cases e; exact hb

/-- what lies in a row of numbers -/
theorem Ints.cells {w : World} {b o : Nat} {xs : List Int} (h : Ints w (some ⟨b, o, none⟩) xs) : ∀ j u, (xs.map (Value.int .i64))[j]? = some u → w.cell? ((⟨b, o, none⟩ : Addr).add j) = some u := by
  intro j u hj
  have hlt : j < xs.length := by
    have := (List.getElem?_eq_some_iff.1 hj).1; simpa using this
  obtain ⟨b', off, e, _, hc⟩ := Ints.at h hlt
  cases e
  rw [Addr.add_lit, hc j hlt]
  rw [List.getElem?_map, getElem?_nth hlt] at hj
  simpa using hj

/-- the call's own numbers, and where they lie -/
def OwnZ (w : World) (B : Nat) (v : Value) (xs : List Int) : Prop := w.ownsRow B 3 1 v xs.length (xs.map (Value.int .i64))
theorem OwnZ.lit (w : World) (B : Nat) (hB : B ≤ w.heap.size) : OwnZ (w.alloc (.cells #[] 3)) B (.slice (some ⟨w.heap.size, 0, none⟩) 0 0) [] := by
  exact World.ownsRow_lit w #[] 0 hB (by decide) rfl
theorem OwnZ.one (w : World) (B : Nat) (x : Int) (hB : B ≤ w.heap.size) : OwnZ (w.alloc (.cells #[.int .i64 x] 3)) B (.slice (some ⟨w.heap.size, 0, none⟩) 1 1) [x] := by
  exact World.ownsRow_lit w #[.int .i64 x] 1 hB (by decide) rfl
theorem OwnZ.nil (w : World) (B : Nat) : OwnZ w B (.slice none 0 0) [] := World.ownsRow_nil _ _ _ _
theorem OwnZ.below {w w' : World} {B : Nat} {v : Value} {xs : List Int} (h : OwnZ w B v xs) (hb : Below w.heap.size w w') : OwnZ w' B v xs := ownsRow_below h hb
theorem OwnZ.alloc {w : World} {B : Nat} {v : Value} {xs : List Int} (h : OwnZ w B v xs) (o : Obj) : OwnZ (w.alloc o) B v xs := h.below ((Below.refl _ _).alloc (Nat.le_refl _) o)
theorem OwnZ.ints {w : World} {B : Nat} {v : Value} {xs : List Int} (h : OwnZ w B v xs) : ∃ a c, v = .slice a xs.length c ∧ xs.length ≤ c ∧ Ints w a xs := ints_of_owns h
theorem OwnZ.form {w : World} {B : Nat} {v : Value} {xs : List Int} (h : OwnZ w B v xs) (hv : v ≠ .slice none 0 0) : ∃ g c, v = .slice (some ⟨g, 0, none⟩) xs.length c ∧ xs.length ≤ c ∧ B ≤ g ∧ Ints w (some ⟨g, 0, none⟩) xs := by
  obtain ⟨a, c, e, hc, hi⟩ := h.ints
  rcases h.2 with ⟨e', _⟩ | ⟨g, cap, cur, e', hB, _, hn, _⟩
  · exact absurd e' hv
  · rw [e] at e'; injection e' with e1 e2 e3; subst e1; exact ⟨g, c, e, hc, hB, hi⟩

/-- append(v, ys...), v the call's own -/
theorem appInts {w : World} {ops : Array Oper} {rest : List Oper} {o : Oper} {a : Act} {Q : Exit → Act → World → Prop} (s x : Operand) (hw : Region.wanted o (yielded ops a.tmps) = true)
    (hop : o.op = .call { callee := .builtin .append, args := #[s, x], argTypes := #[26, 26] }) (B : Nat) (v : Value) (xs ys : List Int) (b o' c : Nat) (hs : a.eval s = v)
    (hown : OwnZ w B v xs) (hx : a.eval x = .slice (some ⟨b, o', none⟩) ys.length c) (hy : Ints w (some ⟨b, o', none⟩) ys) (hl : xs.length ≤ 2097152) (hl2 : ys.length ≤ 2097152) (hB : B ≤ w.heap.size)
    (hK : ∀ v' w', OwnZ w' B v' (xs ++ ys) → Below B w w' → w.grownBy w' v.ownBlock → (v' = .slice none 0 0 ↔ v = .slice none 0 0 ∧ ys.length = 0) → (v'.ownBlock = v.ownBlock ∨ v'.ownBlock = some w.heap.size) → wpList Tryd.prog ops Q rest (a.put o.dst v') w') : wpList Tryd.prog ops Q (o :: rest) a w := by
  refine BigFrame.wpList_want hw fun K hK' => ?_
  obtain ⟨i0, hi, hz0, hz1, hz2⟩ := info_parts infoInt
  obtain ⟨v', w', hr, h2, h3, h4, h5⟩ := run_append_own_at (P := Tryd.prog) w B 26 o.type 3 i0 (.int .i64 0) 1 8 Tryd.underlying26 hi hz0 hz1 hz2 rfl (by decide) v xs.length _ hown ⟨b, o', none⟩ ys.length c (ys.map (Value.int .i64)) (by simp) hy.cells
    (by intro u hu; obtain ⟨y, _, rfl⟩ := List.mem_map.1 hu; rfl) (by unfold maxLen; omega) (by omega) hB
  unfold Oper.wp execOp
  simp only [hop, resolve, invoke, builtin, Sem.run_bind, Sem.run_pure, Result.andThen_ok, List.map_toArray, List.map_cons, List.map_nil, hs, hx, hr]
  exact hK' _ _ (hK v' w' (by unfold OwnZ; rw [List.length_append, List.map_append]; exact h2) (grown_below h3 hB fun k hk => (hown.lt k hk).1) h3 h4 h5)

/-! ### blocks of a pit -/
/-- a block of a pit under way -/
structure PB where
  worth : Int
  needs : List Int
  a : Option Addr
  c : Nat
def PB.cells (x : PB) : List Value := [.int .i64 x.worth, .slice x.a x.needs.length x.c]
def PB.blk (x : PB) : Blk := ⟨x.worth, x.needs⟩
instance : Inhabited PB := ⟨⟨0, [], none, 0⟩⟩

theorem flat_len : ∀ (ps : List PB), (ps.flatMap PB.cells).length = ps.length * 2
  | [] => rfl
  | x :: l => by rw [List.flatMap_cons, List.length_append, flat_len l]; simp [PB.cells]; omega
theorem flat_at : ∀ (ps : List PB) (k : Nat), k < ps.length → (ps.flatMap PB.cells)[k * 2]? = some (.int .i64 (nth ps k).worth) ∧ (ps.flatMap PB.cells)[k * 2 + 1]? = some (.slice (nth ps k).a (nth ps k).needs.length (nth ps k).c)
  | [], k, h => by simp at h
  | x :: l, 0, _ => ⟨rfl, rfl⟩
  | x :: l, k + 1, h => by
    have ih := flat_at l k (by simpa using h)
    rw [show (k + 1) * 2 = k * 2 + 2 by omega, show k * 2 + 2 + 1 = (k * 2 + 1) + 2 by omega]
    exact ih
theorem infoBlkD : (Tryd.prog.info? 28).map (fun i => (i.zero, i.size, i.bytes)) = some (some (.agg #[.int .i64 0, .slice none 0 0]), 2, 32) := by kernel_rfl

def PB.Ok (w : World) (x : PB) : Prop := x.needs.length ≤ 1048576 ∧ x.needs.length ≤ x.c ∧ x.c ≤ 9223372036854775807 ∧ Ints w x.a x.needs
theorem PB.Ok.below {w w' : World} {x : PB} (h : x.Ok w) (hb : Below w.heap.size w w') : x.Ok w' := ⟨h.1, h.2.1, h.2.2.1, h.2.2.2.below hb⟩
theorem PB.Ok.grown {w w' : World} {row : Option Nat} {x : PB} (h : x.Ok w) (hg : w.grownBy w' row) (hne : ∀ b o, 0 < x.needs.length → x.a = some ⟨b, o, none⟩ → row ≠ some b) : x.Ok w' := ⟨h.1, h.2.1, h.2.2.1, h.2.2.2.grown hg hne⟩

/-- blocks that lie where they are read only -/
def RdB (w : World) (y : Addr) (qs : List PB) : Prop := (∀ j u, (qs.flatMap PB.cells)[j]? = some u → w.cell? (y.add j) = some u) ∧ ∀ x ∈ qs, x.Ok w
/-- blocks of the call's own -/
def OwnB (w : World) (B : Nat) (v : Value) (ps : List PB) : Prop :=
  w.ownsRow B 28 2 v ps.length (ps.flatMap PB.cells) ∧ ∀ x ∈ ps, x.Ok w ∧ ∀ b o, 0 < x.needs.length → x.a = some ⟨b, o, none⟩ → v.ownBlock ≠ some b
theorem OwnB.below {w w' : World} {B : Nat} {v : Value} {ps : List PB} (h : OwnB w B v ps) (hb : Below w.heap.size w w') : OwnB w' B v ps := ⟨ownsRow_below h.1 hb, fun x hx => ⟨(h.2 x hx).1.below hb, (h.2 x hx).2⟩⟩
theorem OwnB.alloc {w : World} {B : Nat} {v : Value} {ps : List PB} (h : OwnB w B v ps) (o : Obj) : OwnB (w.alloc o) B v ps := h.below ((Below.refl _ _).alloc (Nat.le_refl _) o)
theorem OwnB.lit (w : World) (B : Nat) (hB : B ≤ w.heap.size) : OwnB (w.alloc (.cells #[] 28)) B (.slice (some ⟨w.heap.size, 0, none⟩) 0 0) [] :=
  ⟨World.ownsRow_lit w #[] 0 hB (by decide) rfl, fun x hx => by cases hx⟩
theorem OwnB.one (w : World) (B : Nat) (x : PB) (hB : B ≤ w.heap.size) (hx : x.Ok w) : OwnB (w.alloc (.cells #[.int .i64 x.worth, .slice x.a x.needs.length x.c] 28)) B (.slice (some ⟨w.heap.size, 0, none⟩) 1 1) [x] := by
  refine ⟨?_, fun y hy => ?_⟩
  · have := World.ownsRow_lit (base := B) (size := 2) (e := 28) w #[.int .i64 x.worth, .slice x.a x.needs.length x.c] 1 hB (by decide) rfl
    simpa [PB.cells] using this
  · obtain rfl := List.mem_singleton.1 hy
    exact ⟨hx.below ((Below.refl _ _).alloc (Nat.le_refl _) _), fun b o h0 e => by
      have := Ints.lt (e ▸ hx.2.2.2) h0
      simp [Value.ownBlock]; omega⟩
theorem OwnB.pit {w : World} {B : Nat} {v : Value} {ps : List PB} (h : OwnB w B v ps) :
    ∃ a c, v = .slice a ps.length c ∧ ps.length ≤ c ∧ Pit w a (ps.map PB.blk) := by
  obtain ⟨h1, h3⟩ := h
  obtain ⟨a, c, e, hc, hcell⟩ := ownsRow_form h1
  refine ⟨a, c, e, hc, ?_⟩
  by_cases h0 : 0 < ps.length
  · obtain ⟨g, rfl, hB, hg, hcell⟩ := hcell h0
    refine .inr ⟨g, 0, rfl, hg, fun k hk => ?_⟩
    simp only [List.length_map] at hk
    obtain ⟨f1, f2⟩ := flat_at ps k hk
    have en : nth (ps.map PB.blk) k = (nth ps k).blk := by simp [nth, List.getD_eq_getElem?_getD, hk]
    rw [en]
    obtain ⟨n1, n2, n3, n4⟩ := (h3 _ (nth_mem hk)).1
    refine ⟨?_, n1, (nth ps k).a, (nth ps k).c, ?_, n2, n3, n4⟩
    · have := hcell _ _ f1; rw [Nat.zero_add]; exact this
    · have := hcell _ _ f2; rw [Nat.zero_add]; exact this
  · exact .inl (by rw [List.eq_nil_of_length_eq_zero (show ps.length = 0 by omega)]; rfl)
theorem OwnB.form {w : World} {B : Nat} {ps : List PB} {v : Value} (h : OwnB w B v ps) (hv : v ≠ .slice none 0 0) : ∃ g c, v = .slice (some ⟨g, 0, none⟩) ps.length c ∧ ps.length ≤ c ∧ B ≤ g ∧ g < w.heap.size ∧ Pit w (some ⟨g, 0, none⟩) (ps.map PB.blk) ∧ RdB w ⟨g, 0, none⟩ ps := by
  obtain ⟨a, c, e, hc, hp⟩ := h.pit
  rcases h.1.2 with ⟨e', _⟩ | ⟨g, cap, cur, e', hB, hg, hn, _⟩
  · exact absurd e' hv
  · rw [e] at e'; injection e' with e1 e2 e3; subst e1; exact ⟨g, c, e, hc, hB, (Array.getElem?_eq_some_iff.1 hg).1, hp, h.1.cells (g := g) (by rw [e]; rfl), fun x hx => (h.2 x hx).1⟩

/-- a pit, block by block as it lies -/
theorem Pit.pbs {w : World} {b o : Nat} {bs : List Blk} (h : Pit w (some ⟨b, o, none⟩) bs) : ∃ ps : List PB, ps.map PB.blk = bs ∧ RdB w ⟨b, o, none⟩ ps := by
  have key : ∀ n, n ≤ bs.length → ∃ ps : List PB, ps.map PB.blk = bs.take n ∧ RdB w ⟨b, o, none⟩ ps := by
    intro n
    induction n with
    | zero => intro _; exact ⟨[], rfl, fun j u hj => by simp at hj, fun x hx => by cases hx⟩
    | succ n ih =>
      intro hn
      obtain ⟨ps, e, h1, h2⟩ := ih (by omega)
      obtain ⟨b', off, A, C, e', _, c1, c2, c3, c4, c5, c6⟩ := Pit.at h (k := n) (by omega)
      cases e'
      have hlen : ps.length = n := by have := congrArg List.length e; simp at this; omega
      refine ⟨ps ++ [⟨(nth bs n).worth, (nth bs n).needs, A, C⟩], ?_, fun j u hj => ?_, fun x hx => ?_⟩
      · rw [List.map_append, e, take_nth (by omega)]; rfl
      · rw [List.flatMap_append] at hj
        by_cases hj2 : j < (ps.flatMap PB.cells).length
        · rw [List.getElem?_append_left hj2] at hj; exact h1 j u hj
        · rw [List.getElem?_append_right (by omega), flat_len, hlen] at hj
          rw [flat_len, hlen] at hj2
          obtain ⟨i, hi⟩ : ∃ i, j - n * 2 = i := ⟨_, rfl⟩
          rw [hi] at hj
          have hji : j = n * 2 + i := by omega
          rw [Addr.add_lit, hji]
          match i, hj with
          | 0, hj => simp [PB.cells] at hj; subst hj; exact c1
          | 1, hj => simp [PB.cells] at hj; subst hj; exact c2
          | i + 2, hj => simp [PB.cells] at hj
      · rcases List.mem_append.1 hx with hx | hx
        · exact h2 x hx
        · obtain rfl := List.mem_singleton.1 hx; exact ⟨c3, c4, c5, c6⟩
  obtain ⟨ps, e, h1⟩ := key bs.length (Nat.le_refl _)
  exact ⟨ps, by rw [e, List.take_length], h1⟩

theorem RdB.below {w w' : World} {b o : Nat} {qs : List PB} (h : RdB w ⟨b, o, none⟩ qs) (hb : Below w.heap.size w w') : RdB w' ⟨b, o, none⟩ qs :=
  ⟨fun j u hj => by
    have h1 := h.1 j u hj
    rw [Addr.add_lit] at h1 ⊢
    rw [hb.cell (p := ⟨b, o + j, none⟩) (cell_lt h1)]; exact h1, fun x hx => (h.2 x hx).below hb⟩
theorem RdB.alloc {w : World} {b o : Nat} {qs : List PB} (h : RdB w ⟨b, o, none⟩ qs) (ob : Obj) : RdB (w.alloc ob) ⟨b, o, none⟩ qs := h.below ((Below.refl _ _).alloc (Nat.le_refl _) ob)
theorem RdB.one (w : World) (x : PB) (hx : x.Ok w) : RdB (w.alloc (.cells #[.int .i64 x.worth, .slice x.a x.needs.length x.c] 28)) ⟨w.heap.size, 0, none⟩ [x] := by
  refine ⟨fun j u hj => ?_, fun y hy => ?_⟩
  · match j, hj with
    | 0, hj => simp [PB.cells] at hj; subst hj; simp [Addr.add]
    | 1, hj => simp [PB.cells] at hj; subst hj; simp [Addr.add]
    | j + 2, hj => simp [PB.cells] at hj
  · obtain rfl := List.mem_singleton.1 hy; exact hx.below ((Below.refl _ _).alloc (Nat.le_refl _) _)

theorem RdB.one_at (w : World) (x : PB) (k : Nat) (hx : x.Ok w) (hk : w.heap.size = k) : RdB (w.alloc (.cells #[.int .i64 x.worth, .slice x.a x.needs.length x.c] 28)) ⟨k, 0, none⟩ [x] := by
  subst hk; exact RdB.one w x hx
theorem Ints.one_at (w : World) (x : Int) (k : Nat) (hk : w.heap.size = k) : Ints (w.alloc (.cells #[.int .i64 x] 3)) (some ⟨k, 0, none⟩) [x] := by
  subst hk
  refine Ints.mk (by simp) fun j hj => ?_
  obtain rfl : j = 0 := by simp at hj; omega
  simp [nth]
/-- what the call owns, with its place: told by a list of plain blocks -/
theorem OwnB.out {w : World} {B : Nat} {ps : List PB} {v : Value} {bs : List Blk} (h : OwnB w B v ps) (hv : v ≠ .slice none 0 0) (e : ps.map PB.blk = bs) : ∃ g c, v = .slice (some ⟨g, 0, none⟩) bs.length c ∧ bs.length ≤ c ∧ Pit w (some ⟨g, 0, none⟩) bs := by
  obtain ⟨g, c, e1, hc, _, _, hp, _⟩ := h.form hv
  subst e
  exact ⟨g, c, by rw [e1]; simp, by simpa using hc, hp⟩

theorem RdB.apart {w : World} {y : Addr} {qs : List PB} (h : RdB w y qs) {g n c : Nat} (hg : w.heap.size ≤ g) : ∀ z ∈ qs, ∀ b o, 0 < z.needs.length → z.a = some ⟨b, o, none⟩ → (Value.slice (some ⟨g, 0, none⟩) n c).ownBlock ≠ some b := by
  intro z hz b o h0 e he
  have := Ints.lt (e ▸ (h.2 z hz).2.2.2) h0
  have : g = b := Option.some.inj he
  omega

theorem PB.flat_one (qs : List PB) : ∀ u ∈ qs.flatMap PB.cells, u.oneCell' = true := by
  intro u hu
  obtain ⟨y, _, hu⟩ := List.mem_flatMap.1 hu
  simp [PB.cells] at hu; rcases hu with rfl | rfl <;> rfl

/-- append(v, qs...), v the call's own -/
theorem appBlks {w : World} {ops : Array Oper} {rest : List Oper} {o : Oper} {a : Act} {Q : Exit → Act → World → Prop} (s x : Operand) (hw : Region.wanted o (yielded ops a.tmps) = true)
    (hop : o.op = .call { callee := .builtin .append, args := #[s, x], argTypes := #[23, 23] }) (B : Nat) (v : Value) (ps qs : List PB) (b o' n c : Nat) (hs : a.eval s = v)
    (ho : OwnB w B v ps) (hx : a.eval x = .slice (some ⟨b, o', none⟩) n c) (hn : qs.length = n) (hq : RdB w ⟨b, o', none⟩ qs) (hne : ∀ y ∈ qs, ∀ b o, 0 < y.needs.length → y.a = some ⟨b, o, none⟩ → v.ownBlock ≠ some b) (hl : ps.length ≤ 1048576) (hl2 : qs.length ≤ 1048576) (hB : B ≤ w.heap.size)
    (hK : ∀ v' w', OwnB w' B v' (ps ++ qs) → Below B w w' → (v ≠ .slice none 0 0 → v' ≠ .slice none 0 0) → w.grownBy w' v.ownBlock → wpList Tryd.prog ops Q rest (a.put o.dst v') w') : wpList Tryd.prog ops Q (o :: rest) a w := by
  subst hn
  refine BigFrame.wpList_want hw fun K hK' => ?_
  obtain ⟨i0, hi, hz0, hz1, hz2⟩ := info_parts infoBlkD
  obtain ⟨o1, o3⟩ := ho
  obtain ⟨v', w', hr, hown', hgr, hnil, hat⟩ := run_append_own_at (P := Tryd.prog) w B 23 o.type 28 i0 _ 2 32 Tryd.underlying23 hi hz0 hz1 hz2 rfl (by decide) v ps.length _ o1 ⟨b, o', none⟩ qs.length c _ (flat_len _) hq.1 (PB.flat_one qs) (by unfold maxLen; omega) (by omega) hB
  unfold Oper.wp execOp
  simp only [hop, resolve, invoke, builtin, Sem.run_bind, Sem.run_pure, Result.andThen_ok, List.map_toArray, List.map_cons, List.map_nil, hs, hx, hr]
  refine hK' _ _ (hK v' w' ⟨by rw [List.length_append, List.flatMap_append]; exact hown', fun y hy => ?_⟩ (grown_below hgr hB fun k hk => (o1.lt k hk).1) (fun h1 h2 => h1 (hnil.1 h2).1) hgr)
  have key : y.Ok w → (∀ b o, 0 < y.needs.length → y.a = some ⟨b, o, none⟩ → v.ownBlock ≠ some b) → y.Ok w' ∧ ∀ b o, 0 < y.needs.length → y.a = some ⟨b, o, none⟩ → v'.ownBlock ≠ some b := fun h1 h2 =>
    ⟨h1.grown hgr h2, fun b o h3 h4 => by
      rcases hat with e | e
      · rw [e]; exact h2 b o h3 h4
      · rw [e]
        have := Ints.lt (h4 ▸ h1.2.2.2) h3
        simp; omega⟩
  rcases List.mem_append.1 hy with hy | hy
  · exact key (o3 y hy).1 (o3 y hy).2
  · exact key (hq.2 y hy) (hne y hy)
end Go.Proofs.YtnjpifaphmeepaaDoor
