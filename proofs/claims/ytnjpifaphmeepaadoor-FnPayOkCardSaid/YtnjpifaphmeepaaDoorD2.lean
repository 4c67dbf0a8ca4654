/- Walks: the drawn pits: spec.l20Pit. -/
import Derived.Test.YtnjpifaphmeepaaDoorD1
import Derived.Test.YtnjpifaphmeepaaDoorPit
import Derived.Test.YtnjpifaphmeepaaDoorApp
import Derived.Test.YtnjpifaphmeepaaDoorBits
import Derived.Maps.AppendAt
import Derived.StillTailTactics
import Derived.Deep.RegionLaw
namespace Go.Proofs.YtnjpifaphmeepaaDoor
open Go Go.RowKit

/-- all blocks below K but R are as they were -/
structure Upto (K R : Nat) (w w' : World) : Prop where
  os : w'.os = w.os
  tape : w'.tape = w.tape
  output : w'.output = w.output
  size : w.heap.size ≤ w'.heap.size
  block : ∀ k, k < K → k ≠ R → w'.heap[k]? = w.heap[k]?
theorem Upto.refl (K R : Nat) (w : World) : Upto K R w w := ⟨rfl, rfl, rfl, Nat.le_refl _, fun _ _ _ => rfl⟩
theorem Upto.of {K R : Nat} {w w' : World} (h : Below K w w') : Upto K R w w' := ⟨h.os, h.tape, h.output, h.size, fun k hk _ => h.block k hk⟩
theorem Upto.trans {K R : Nat} {w w' w'' : World} (h : Upto K R w w') (h' : Upto K R w' w'') : Upto K R w w'' :=
  ⟨h'.os.trans h.os, h'.tape.trans h.tape, h'.output.trans h.output, Nat.le_trans h.size h'.size, fun k hk hr => (h'.block k hk hr).trans (h.block k hk hr)⟩
theorem Upto.mono {K K' R : Nat} {w w' : World} (h : Upto K R w w') (hK : K' ≤ K) : Upto K' R w w' := ⟨h.os, h.tape, h.output, h.size, fun k hk => h.block k (by omega)⟩
theorem Upto.below {K R : Nat} {w w' : World} (h : Upto K R w w') (hK : K ≤ R) : Below K w w' := ⟨h.os, h.tape, h.output, h.size, fun k hk => h.block k hk (by omega)⟩
theorem Upto.tick (K R q : Nat) (w : World) (x : Value) : Upto K R w ((w.setCell ⟨R, 1, none⟩ x).drewN q) := ⟨rfl, rfl, rfl, by simp [World.setCell, World.drewN], fun k _ hr => Below.heap_setCell w ⟨R, 1, none⟩ x k hr⟩
theorem Upto.cell {K R : Nat} {w w' : World} (h : Upto K R w w') {p : Addr} (hp : p.block < K) (hr : p.block ≠ R) : w'.cell? p = w.cell? p := World.cell?_of_block (h.block _ hp hr)
theorem Upto.frozen {K R : Nat} {w w' : World} (h : Upto K R w w') {p : Addr} (hp : p.block < K) (hr : p.block ≠ R) : w'.frozen? p = w.frozen? p := World.frozen?_of_block (h.block _ hp hr)

theorem ownsRow_upto {w w' : World} {B K R E sz : Nat} {v : Value} {n : Nat} {cs : List Value} (h : w.ownsRow B E sz v n cs) (hu : Upto K R w w') (hK : ∀ k, v.ownBlock = some k → k < K ∧ k ≠ R) : w'.ownsRow B E sz v n cs := by
  refine ⟨h.1, ?_⟩
  rcases h.2 with hn | ⟨g, cap, cur, e, hB, hg, r⟩
  · exact .inl hn
  · subst e
    obtain ⟨h1, h2⟩ := hK g rfl
    exact .inr ⟨g, cap, cur, rfl, hB, (hu.block g h1 h2).trans hg, r⟩

/-- the reader stays as it is where the call works above its blocks -/
theorem Rdr.keep {w w' : World} {R : Nat} {a : Option Addr} {n c p B : Nat} (h : Rdr w R a n c p) (hR : R < B) (ha : ∀ b off, 0 < n → a = some ⟨b, off, none⟩ → b < B) (hb : Below B w w') : Rdr w' R a n c p :=
  ⟨by rw [hb.cell (p := ⟨R, 0, none⟩) hR]; exact h.code, by rw [hb.cell (p := ⟨R, 1, none⟩) hR]; exact h.at_, by rw [hb.frozen (p := ⟨R, 1, none⟩) hR]; exact h.free, fun hn => by
    obtain ⟨b, off, e, hlt, hc⟩ := h.bytes hn
    have hbB := ha b off hn e
    refine ⟨b, off, e, Nat.lt_of_lt_of_le hlt hb.size, fun j hj => ?_⟩
    obtain ⟨x, hx, hc⟩ := hc j hj
    exact ⟨x, hx, by rw [hb.cell (p := ⟨b, off + j, none⟩) hbB]; exact hc⟩, h.apart, h.few⟩

theorem pick_up (R : Nat) (a : Option Addr) (n c p : Nat) (m : Int) (w : World) (h : Rdr w R a n c p) (hp : p ≤ 1000000) (hm : m ≤ 1000000) :
    Calls Tryd.prog 79 #[.pointer (some ⟨R, 0, none⟩), .int .i64 m] w fun e w' => ∃ k : Nat, e = .returned (.int .i64 (k : Int)) ∧ (1 ≤ m → (k : Int) < m) ∧ (m < 1 → k = 0) ∧ Rdr w' R a n c (p + 1) ∧ (∀ K, Upto K R w w') :=
  (pick_any R a n c p m w h hp hm).mono fun e w' ⟨k, he, h1, h2, q, hw⟩ => ⟨k, he, h1, h2, by rw [hw]; exact h.ticked.drewN q, fun K => by rw [hw]; exact Upto.tick K R q w _⟩
theorem odd_up (R : Nat) (a : Option Addr) (n c p : Nat) (m : Nat) (w : World) (h : Rdr w R a n c p) (hp : p ≤ 1000000) (hm1 : 0 < m) (hm : m ≤ 1000000) :
    Calls Tryd.prog 82 #[.pointer (some ⟨R, 0, none⟩), .int .i64 m] w fun e w' => ∃ b, e = .returned (.bool b) ∧ Rdr w' R a n c (p + 1) ∧ (∀ K, Upto K R w w') :=
  (odd_any R a n c p m w h hp hm1 hm).mono fun e w' ⟨k, he, q, hw⟩ => ⟨k, he, by rw [hw]; exact h.ticked.drewN q, fun K => by rw [hw]; exact Upto.tick K R q w _⟩

/-- the needs of a block lie in a block of their own, below K -/
def NeedsAt (w : World) (B K : Nat) (x : PB) : Prop :=
  x.needs.length ≤ 100 ∧ x.needs.length ≤ x.c ∧ x.c ≤ 9223372036854775807 ∧ (0 < x.needs.length → ∃ g, x.a = some ⟨g, 0, none⟩ ∧ B ≤ g ∧ g < K ∧ g < w.heap.size ∧ ∀ j u, (x.needs.map (Value.int .i64))[j]? = some u → w.cell? ⟨g, j, none⟩ = some u)
def OwnPit (w : World) (B K : Nat) (v : Value) (ps : List PB) : Prop :=
  w.ownsRow B 28 2 v ps.length (ps.flatMap PB.cells) ∧ (∀ k, v.ownBlock = some k → k < K) ∧ ∀ x ∈ ps, NeedsAt w B K x ∧ ∀ g, 0 < x.needs.length → x.a = some ⟨g, 0, none⟩ → v.ownBlock ≠ some g

theorem NeedsAt.upto {w w' : World} {B K R : Nat} {x : PB} (h : NeedsAt w B K x) (hR : R < B) (hu : Upto K R w w') : NeedsAt w' B K x := by
  obtain ⟨h1, h2, h3, h4⟩ := h
  refine ⟨h1, h2, h3, fun hn => ?_⟩
  obtain ⟨g, e, hg1, hg2, hg3, hc⟩ := h4 hn
  exact ⟨g, e, hg1, hg2, Nat.lt_of_lt_of_le hg3 hu.size, fun j u hj => by rw [hu.cell (p := ⟨g, j, none⟩) hg2 (by show g ≠ R; omega)]; exact hc j u hj⟩
theorem OwnPit.upto {w w' : World} {B K R : Nat} {v : Value} {ps : List PB} (h : OwnPit w B K v ps) (hR : R < B) (hu : Upto K R w w') : OwnPit w' B K v ps := by
  obtain ⟨h1, h2, h3⟩ := h
  refine ⟨ownsRow_upto h1 hu fun k hk => ⟨h2 k hk, ?_⟩, h2, fun x hx => ⟨(h3 x hx).1.upto hR hu, (h3 x hx).2⟩⟩
  have := (h1.lt k hk).1; omega
theorem NeedsAt.mono {w : World} {B K K' : Nat} {x : PB} (h : NeedsAt w B K x) (hK : K ≤ K') : NeedsAt w B K' x := by
  obtain ⟨h1, h2, h3, h4⟩ := h
  refine ⟨h1, h2, h3, fun hn => ?_⟩
  obtain ⟨g, e, hg1, hg2, hg3, hc⟩ := h4 hn
  exact ⟨g, e, hg1, by omega, hg3, hc⟩
theorem OwnPit.mono {w : World} {B K K' : Nat} {v : Value} {ps : List PB} (h : OwnPit w B K v ps) (hK : K ≤ K') : OwnPit w B K' v ps :=
  ⟨h.1, fun k hk => Nat.lt_of_lt_of_le (h.2.1 k hk) hK, fun x hx => ⟨(h.2.2 x hx).1.mono hK, (h.2.2 x hx).2⟩⟩

theorem OwnPit.pit {w : World} {B K : Nat} {v : Value} {ps : List PB} (h : OwnPit w B K v ps) :
    ∃ a c, v = .slice a ps.length c ∧ ps.length ≤ c ∧ Pit w a (ps.map PB.blk) := by
  obtain ⟨h1, h2, h3⟩ := h
  obtain ⟨a, c, e, hc, hcell⟩ := ownsRow_form h1
  refine ⟨a, c, e, hc, ?_⟩
  by_cases h0 : 0 < ps.length
  · obtain ⟨g, rfl, hB, hg, hcell⟩ := hcell h0
    refine .inr ⟨g, 0, rfl, hg, fun k hk => ?_⟩
    simp only [List.length_map] at hk
    obtain ⟨f1, f2⟩ := flat_at ps k hk
    have en : nth (ps.map PB.blk) k = (nth ps k).blk := by simp [nth, List.getD_eq_getElem?_getD, hk]
    rw [en]
    obtain ⟨n1, n2, n3, n4⟩ := (h3 _ (nth_mem hk)).1
    refine ⟨?_, Nat.le_trans n1 (by omega), (nth ps k).a, (nth ps k).c, ?_, n2, n3, ?_⟩
    · have := hcell _ _ f1; rw [Nat.zero_add]; exact this
    · have := hcell _ _ f2; rw [Nat.zero_add]; exact this
    · by_cases hn : 0 < (nth ps k).needs.length
      · obtain ⟨g2, e2, _, _, hg2, hc2⟩ := n4 hn
        rw [e2]
        exact Ints.mk hg2 fun j hj => by rw [Nat.zero_add]; exact hc2 j _ (by rw [List.getElem?_map, getElem?_nth (show j < (nth ps k).needs.length from hj)]; rfl)
      · exact .inl (List.eq_nil_of_length_eq_zero (by show (nth ps k).needs.length = 0; omega))
  · exact .inl (by rw [List.eq_nil_of_length_eq_zero (show ps.length = 0 by omega)]; rfl)


theorem NeedsAt.grown {w w' : World} {B K : Nat} {row : Option Nat} {x : PB} (h : NeedsAt w B K x) (hg : w.grownBy w' row) (hne : ∀ g, 0 < x.needs.length → x.a = some ⟨g, 0, none⟩ → row ≠ some g) : NeedsAt w' B w'.heap.size x := by
  obtain ⟨h1, h2, h3, h4⟩ := h
  refine ⟨h1, h2, h3, fun hn => ?_⟩
  obtain ⟨g, e, hg1, hg2, hg3, hc⟩ := h4 hn
  have hgl := Nat.lt_of_lt_of_le hg3 hg.size
  exact ⟨g, e, hg1, hgl, hgl, fun j u hj => by rw [World.cell?_of_block (a := ⟨g, j, none⟩) (hg.block g hg3 (fun e' => hne g hn e e'.symm))]; exact hc j u hj⟩
theorem NeedsAt.lt {w : World} {B K : Nat} {x : PB} (h : NeedsAt w B K x) {g : Nat} (hn : 0 < x.needs.length) (e : x.a = some ⟨g, 0, none⟩) : g < w.heap.size := by
  obtain ⟨g', e', _, _, hg3, _⟩ := h.2.2.2 hn
  rw [e] at e'; cases e'; exact hg3

theorem appBlk {w : World} {ops : Array Oper} {rest : List Oper} {o : Oper} {a : Act} {Q : Exit → Act → World → Prop} (s x : Operand) (hg : o.guard = none)
    (hop : o.op = .call { callee := .builtin .append, args := #[s, x], argTypes := #[23, 23] }) (B K : Nat) (v : Value) (ps : List PB) (px : PB) (b c : Nat) (hs : a.eval s = v)
    (ho : OwnPit w B K v ps) (hx : a.eval x = .slice (some ⟨b, 0, none⟩) 1 c) (hc0 : w.cell? ⟨b, 0, none⟩ = some (.int .i64 px.worth)) (hc1 : w.cell? ⟨b, 1, none⟩ = some (.slice px.a px.needs.length px.c))
    (hn : NeedsAt w B w.heap.size px) (hne : ∀ g, 0 < px.needs.length → px.a = some ⟨g, 0, none⟩ → v.ownBlock ≠ some g) (hl : ps.length ≤ 1000) (hB : B ≤ w.heap.size)
    (hK : ∀ v' w', OwnPit w' B w'.heap.size v' (ps ++ [px]) → Below B w w' → v' ≠ .slice none 0 0 → wpList Tryd.prog ops Q rest (a.put o.dst v') w') : wpList Tryd.prog ops Q (o :: rest) a w := by
  obtain ⟨i0, hi, hz0, hz1, hz2⟩ := info_parts infoBlkD
  obtain ⟨o1, o2, o3⟩ := ho
  refine wpList_append_own_at _ hg s x 23 hop B 28 i0 _ 2 32 Tryd.underlying23 hi hz0 hz1 hz2 rfl (by decide) v ps.length _ hs o1 ⟨b, 0, none⟩ 1 c px.cells hx rfl ?_ ?_ (by unfold maxLen; omega) (by omega) hB ?_
  · intro j u hj
    match j, hj with
    | 0, hj => simp [PB.cells] at hj; subst hj; rw [Addr.add_lit]; exact hc0
    | 1, hj => simp [PB.cells] at hj; subst hj; rw [Addr.add_lit]; exact hc1
    | j + 2, hj => simp [PB.cells] at hj
  · intro u hu; simp [PB.cells] at hu; rcases hu with rfl | rfl <;> rfl
  · intro v' w' hown' hgr hnil hat
    refine hK v' w' ⟨?_, fun k hk => (hown'.lt k hk).2, fun y hy => ?_⟩ (grown_below hgr hB fun k hk => (o1.lt k hk).1) (fun e => by have := (hnil.1 e).2; omega)
    · have e : (ps ++ [px]).flatMap PB.cells = ps.flatMap PB.cells ++ px.cells := by simp
      rw [e, List.length_append]; exact hown'
    · have key : ∀ y : PB, NeedsAt w B w.heap.size y → (∀ g, 0 < y.needs.length → y.a = some ⟨g, 0, none⟩ → v.ownBlock ≠ some g) → NeedsAt w' B w'.heap.size y ∧ ∀ g, 0 < y.needs.length → y.a = some ⟨g, 0, none⟩ → v'.ownBlock ≠ some g := fun y h1 h2 =>
        ⟨h1.grown hgr h2, fun g h3 h4 => by
          rcases hat with e | e
          · rw [e]; exact h2 g h3 h4
          · rw [e]; have := h1.lt h3 h4; simp; omega⟩
      rcases List.mem_append.1 hy with hy | hy
      · refine key y ?_ (o3 y hy).2
        obtain ⟨h1, h2, h3, h4⟩ := (o3 y hy).1
        exact ⟨h1, h2, h3, fun hn => by obtain ⟨g, e, hg1, hg2, hg3, hc⟩ := h4 hn; exact ⟨g, e, hg1, hg3, hg3, hc⟩⟩
      · rw [List.mem_singleton.1 hy]; exact key px hn hne

theorem needs_of_row {w : World} {B X : Nat} {wd : Int} {ns : List Int} {an : Option Addr} {cn : Nat} (h : w.ownsRow (X + 1) 3 1 (.slice an ns.length cn) ns.length (ns.map (Value.int .i64))) (hB : B ≤ X) (hl : ns.length ≤ 100) :
    NeedsAt w B w.heap.size ⟨wd, ns, an, cn⟩ ∧ ∀ g, 0 < ns.length → an = some ⟨g, 0, none⟩ → X < g := by
  have h' := h
  rcases h.2 with ⟨e, hn⟩ | ⟨g, cap, cur, e, hBg, hg, hn, hc, hs, ht⟩
  · injection e with e1 e2 e3
    exact ⟨⟨hl, by show ns.length ≤ cn; omega, by show cn ≤ _; omega, fun h => by have : 0 < ns.length := h; omega⟩, fun g h => by omega⟩
  · injection e with e1 e2 e3
    subst e1 e3
    refine ⟨⟨hl, hn, hc, fun _ => ⟨g, rfl, by omega, (Array.getElem?_eq_some_iff.1 hg).1, (Array.getElem?_eq_some_iff.1 hg).1, fun j u hj => ?_⟩⟩, fun g' _ e' => by cases e'; omega⟩
    have := World.ownsRow.cells h' (g := g) rfl j u hj
    rwa [Addr.add_lit, Nat.zero_add] at this

theorem OwnPit.done {w : World} {B K R : Nat} {ps : List PB} {o1 : Option Addr} {c1 : Nat} (h : OwnPit w B K (.slice o1 ps.length c1) ps) (hR : R < B) (hK : K ≤ w.heap.size) : ∀ W, Upto w.heap.size R w W → Pit W o1 (ps.map PB.blk) := fun W hu => by
  obtain ⟨a, c, e, _, hp⟩ := (h.upto hR (hu.mono hK)).pit
  injection e with e1
  rw [e1]; exact hp

theorem mkBlk9 (w : World) : (Instr.makeSlice 23 (.int .i64 9) (.int .i64 9)).run Tryd.prog w =
    .ok (.slice (some ⟨w.heap.size, 0, none⟩) 9 9) (w.alloc (.cells (madeCells #[.int .i64 0, .slice none 0 0] 18) 28)) := by
  obtain ⟨i0, hi, hz0, hz1, hz2⟩ := info_parts infoBlkD
  have h := run_make (P := Tryd.prog) w 23 28 i0 _ Tryd.underlying23 hi hz0 .i64 .i64 9 9 (by omega) (Int.le_refl _) (by rw [hz2]; omega) (by omega)
  simpa [hz1, Value.cells] using h

theorem own_nine (w : World) (B : Nat) (hB : B ≤ w.heap.size) : OwnPit (w.alloc (.cells (madeCells #[.int .i64 0, .slice none 0 0] 18) 28)) B (w.heap.size + 1) (.slice (some ⟨w.heap.size, 0, none⟩) 9 9) (List.replicate 9 ⟨0, [], none, 0⟩) := by
  refine ⟨?_, fun k hk => by cases hk; exact Nat.lt_succ_self _, fun x hx => ?_⟩
  · have := World.ownsRow_lit (base := B) (size := 2) (e := 28) w (madeCells #[.int .i64 0, .slice none 0 0] 18) 9 hB (by decide) (by kernel_rfl)
    have e : (madeCells #[.int .i64 0, .slice none 0 0] 18).toList = (List.replicate 9 (⟨0, [], none, 0⟩ : PB)).flatMap PB.cells := by kernel_rfl
    rw [e] at this
    exact this
  obtain rfl := List.eq_of_mem_replicate hx
  exact ⟨⟨by decide, by decide, by decide, fun h => by cases h⟩, fun g h => by cases h⟩

theorem own_one (w : World) (B : Nat) (x : Int) (hB : B ≤ w.heap.size) : OwnPit ((w.alloc (.cells #[.int .i64 0] 3)).alloc (.cells #[.int .i64 x, .slice (some ⟨w.heap.size, 0, none⟩) 1 1] 28)) B (w.heap.size + 2)
    (.slice (some ⟨w.heap.size + 1, 0, none⟩) 1 1) [⟨x, [0], some ⟨w.heap.size, 0, none⟩, 1⟩] := by
  refine ⟨?_, fun k hk => by cases hk; show w.heap.size + 1 < _; omega, fun y hy => ?_⟩
  · have := World.ownsRow_lit (base := B) (size := 2) (e := 28) (w.alloc (.cells #[.int .i64 0] 3)) #[.int .i64 x, .slice (some ⟨w.heap.size, 0, none⟩) 1 1] 1 (by simp; omega) (by decide) rfl
    simpa [PB.cells] using this
  · obtain rfl := List.mem_singleton.1 hy
    refine ⟨⟨by simp, by simp, by simp, fun _ => ⟨w.heap.size, rfl, hB, by omega, by simp; omega, fun j u hj => ?_⟩⟩, fun g _ e => ?_⟩
    · match j, hj with
      | 0, hj => simp at hj; subst hj; simp
      | j + 1, hj => simp at hj
    · cases e; simp [Value.ownBlock]

theorem OwnPit.form {w : World} {B K : Nat} {ps : List PB} {v : Value} (h : OwnPit w B K v ps) (hv : v ≠ .slice none 0 0) : ∃ g c, v = .slice (some ⟨g, 0, none⟩) ps.length c ∧ ps.length ≤ c ∧ B ≤ g ∧ g < K := by
  rcases h.1.2 with ⟨e, _⟩ | ⟨g, cap, cur, e, hB, _, hn, _⟩
  · exact absurd e hv
  · exact ⟨g, cap, e, hn, hB, h.2.1 g (by rw [e]; rfl)⟩

theorem blk_second (w : World) (o1 o2 : Obj) : ((w.alloc o1).alloc o2).heap[w.heap.size + 1]? = some o2 := by
  have h : ((w.alloc o1).alloc o2).heap[(w.alloc o1).heap.size]? = some o2 := Deep.blk_alloc_new _ _
  have e : (w.alloc o1).heap.size = w.heap.size + 1 := by simp
  rw [e] at h; exact h
def zOf (y : Nat) : Int := if y = 0 then -21 else 21
theorem two_at (y : Nat) (hy : (y : Int) < 2) (W : World) : (W.alloc (.cells #[.int .i64 (-21), .int .i64 21] 3)).cell? ⟨W.heap.size, y, none⟩ = some (.int .i64 (zOf y)) := by
  obtain rfl | rfl : y = 0 ∨ y = 1 := by omega
  · simp [zOf]
  · simp [zOf]

/-- where the rest of a pit under way begins -/
theorem OwnPit.rest {w : World} {B K g c : Nat} {ps : List PB} (h : OwnPit w B K (.slice (some ⟨g, 0, none⟩) ps.length c) ps) (o : Nat) (ho : 1 < ps.length → o = 2) : ∀ j u, ((ps.drop 1).flatMap PB.cells)[j]? = some u → w.cell? ((⟨g, o, none⟩ : Addr).add j) = some u := by
  intro j u hj
  match ps, h, ho, hj with
  | [], _, _, hj => simp at hj
  | [x], _, _, hj => simp at hj
  | x :: y :: l, h, ho, hj =>
    rw [ho (by simp), Addr.add_lit, show 2 + j = 0 + (2 + j) by omega, ← Addr.add_lit]
    refine World.ownsRow.cells h.1 (g := g) rfl _ _ ?_
    rw [List.flatMap_cons, List.getElem?_append_right (by simp [PB.cells])]
    simpa [PB.cells] using hj

/-- append([]Block{{Worth: z}}, out[..]...): as one step of a drawn region -/
theorem stepHead {w : World} {ops : Array Oper} {o : Oper} {a : Act} {K : Act → World → Prop} {Q : Exit → Act → World → Prop} {E : Prop} (s x : Operand) (hg : o.guard = none)
    (hop : o.op = .call { callee := .builtin .append, args := #[s, x], argTypes := #[23, 23] }) (B M g c1 oo n' c : Nat) (ps : List PB) (z : Int) (Z : Nat)
    (hs : a.eval s = .slice (some ⟨Z, 0, none⟩) 1 1) (hZ : w.heap[Z]? = some (.cells #[.int .i64 z, .slice none 0 0] 28 (0, 0))) (hBZ : B ≤ Z) (hMZ : M ≤ Z)
    (ho : OwnPit w B M (.slice (some ⟨g, 0, none⟩) ps.length c1) ps) (hoo : 1 < ps.length → oo = 2) (hn' : (ps.drop 1).length = n') (hx : a.eval x = .slice (some ⟨g, oo, none⟩) n' c) (hl : ps.length ≤ 1000)
    (hK : ∀ v' w', OwnPit w' B w'.heap.size v' (⟨z, [], none, 0⟩ :: ps.drop 1) → Below B w w' → v' ≠ .slice none 0 0 → K (a.put o.dst v') w') : if Region.wanted o (yielded ops a.tmps) = true then Oper.wp Tryd.prog o a w K Q else E := by
  have hw : Region.wanted o (yielded ops a.tmps) = true := by simp [Region.wanted, hg]
  rw [if_pos hw]
  have hnews := ho.rest oo hoo
  rw [← hn'] at hx
  obtain ⟨i0, hi, hz0, hz1, hz2⟩ := info_parts infoBlkD
  obtain ⟨o1, o2, o3⟩ := ho
  have hZlt : Z < w.heap.size := (Array.getElem?_eq_some_iff.1 hZ).1
  have hown : w.ownsRow B 28 2 (.slice (some ⟨Z, 0, none⟩) 1 1) 1 [.int .i64 z, .slice none 0 0] := ⟨rfl, .inr ⟨Z, 1, _, rfl, hBZ, hZ, by omega, by decide, rfl, rfl⟩⟩
  have hdl : (ps.drop 1).length ≤ 1000 := by simp; omega
  have h1 : ∀ u ∈ (ps.drop 1).flatMap PB.cells, u.oneCell' = true := by
    intro u hu
    obtain ⟨y, _, hu⟩ := List.mem_flatMap.1 hu
    simp [PB.cells] at hu; rcases hu with rfl | rfl <;> rfl
  obtain ⟨v', w', hr, hown', hgr, hnil, hat⟩ := run_append_own_at (P := Tryd.prog) w B 23 o.type 28 i0 _ 2 32 Tryd.underlying23 hi hz0 hz1 hz2 rfl (by decide) _ 1 _ hown ⟨g, oo, none⟩ _ c _ (flat_len _) hnews h1 (by unfold maxLen; omega) (by omega) (by omega)
  unfold Oper.wp execOp
  simp only [hop, resolve, invoke, builtin, Sem.run_bind, Sem.run_pure, Result.andThen_ok, List.map_toArray, List.map_cons, List.map_nil, hs, hx, hr]
  · show K (a.put o.dst v') w'
    refine hK v' w' ⟨?_, fun k hk => (hown'.lt k hk).2, fun y hy => ?_⟩ (grown_below hgr (by omega) fun k hk => by cases hk; exact hBZ) (fun e => by have := (hnil.1 e).1; simp at this)
    · have e : (⟨z, [], none, 0⟩ :: ps.drop 1 : List PB).flatMap PB.cells = [.int .i64 z, .slice none 0 0] ++ (ps.drop 1).flatMap PB.cells := rfl
      rw [e, List.length_cons, Nat.add_comm]; exact hown'
    · rcases List.mem_cons.1 hy with rfl | hy
      · exact ⟨⟨by simp, by simp, by simp, fun h => by cases h⟩, fun g h => by cases h⟩
      · have hy := o3 y (List.mem_of_mem_drop hy)
        have hne : ∀ g, 0 < y.needs.length → y.a = some ⟨g, 0, none⟩ → Value.ownBlock (.slice (some ⟨Z, 0, none⟩) 1 1) ≠ some g := fun g h1 h2 => by
          obtain ⟨g', e', _, hM, _⟩ := hy.1.2.2.2 h1
          rw [h2] at e'; cases e'
          simp [Value.ownBlock]; omega
        refine ⟨hy.1.grown hgr hne, fun g h1 h2 => ?_⟩
        rcases hat with e | e
        · rw [e]; exact hne g h1 h2
        · rw [e]; have := hy.1.lt h1 h2; simp; omega

set_option maxRecDepth 100000 in
set_option maxHeartbeats 2000000 in
theorem l20Pit_any (R : Nat) (a : Option Addr) (n c p : Nat) (m : Nat) (w : World) (h : Rdr w R a n c p) (hp : p ≤ 1000) (hm1 : 0 < m) (hm : m ≤ 1000) :
    Calls Tryd.prog 64 #[.pointer (some ⟨R, 0, none⟩), .int .i64 m] w fun e w' => ∃ (bs : List Blk) (A : Option Addr) (C p' : Nat), e = .returned (.slice A bs.length C) ∧ bs.length ≤ 9 ∧ bs.length ≤ C ∧ (∃ g, A = some ⟨g, 0, none⟩) ∧ (∀ W, Upto w'.heap.size R w' W → Pit W A bs) ∧
      Rdr w' R a n c p' ∧ p' ≤ p + 400 ∧ Upto w.heap.size R w w' := by
  obtain ⟨B, hB⟩ : ∃ B, w.heap.size = B := ⟨_, rfl⟩
  have hRB : R < B := by rw [← hB]; exact h.lt
  have hcode : ∀ b off, 0 < n → a = some ⟨b, off, none⟩ → b < B := fun b off hn e => by
    obtain ⟨b', off', e', hlt, _⟩ := h.bytes hn
    rw [e] at e'; cases e'; omega
  rw [hB]
  go_enter Tryd.func64, Tryd.ntmps64
  go_wp2_with fail
  obtain ⟨W0, hW0⟩ : ∃ W0, W0 = w.alloc (.cells #[] 28) := ⟨_, rfl⟩
  have b0 : Below B w W0 := by rw [hW0]; exact (Below.refl _ _).alloc (Nat.le_of_eq hB.symm) _
  have z0 : B < W0.heap.size := by rw [hW0]; simp; omega
  have hout : OwnPit W0 B (B + 1) (.slice (some ⟨B, 0, none⟩) 0 0) [] := by
    refine ⟨?_, fun k hk => by cases hk; exact Nat.lt_succ_self _, fun x hx => by cases hx⟩
    rw [hW0, ← hB]
    exact World.ownsRow_lit w #[] 0 (Nat.le_refl _) (by decide) rfl
  have r0 : Rdr W0 R a n c p := h.keep hRB hcode b0
  rw [← hW0]
  clear hW0
  refine (pick_up R a n c p 4 W0 r0 (by omega) (by omega)).mono ?_
  rintro e w1 ⟨often, rfl, ho1, ho2, r1, u1⟩
  replace ho1 := ho1 (by omega)
  clear ho2
  go_wp2_with fail
  refine (pick_up R a n c (p + 1) 9 w1 r1 (by omega) (by omega)).mono ?_
  rintro e w2 ⟨k0, rfl, hk1, hk2, r2, u2⟩
  replace hk1 := hk1 (by omega)
  clear hk2
  have u3 : Upto B R w w2 := (Upto.of b0).trans ((u1 B).trans (u2 B))
  have z3 : B + 1 ≤ w2.heap.size := Nat.le_trans z0 (Nat.le_trans (u1 0).size (u2 0).size)
  have ho : OwnPit w2 B (B + 1) (.slice (some ⟨B, 0, none⟩) 0 0) [] := (hout.upto hRB (u1 _)).upto hRB (u2 _)
  clear u1 u2 r1 r0 hout b0 z0
  go_wp2_with fail
  go_loopw [5, 7] (fun out kk wr => ∃ (k q K : Nat) (v : Value) (ps : List PB), k ≤ 8 ∧ kk = .int .i64 k ∧ out = v ∧ ps.length + k ≤ 8 ∧ v ≠ .slice none 0 0 ∧ OwnPit wr B K v ps ∧ K ≤ wr.heap.size ∧ Rdr wr R a n c q ∧ q + 20 * k ≤ p + 200 ∧ Upto B R w wr) (fun _ kk _ => (intOf kk).toNat)
  case atStart => exact ⟨k0, p + 1 + 1, B + 1, _, [], by omega, rfl, rfl, by simp; omega, by simp, ho, z3, r2, by omega, u3⟩
  case round =>
    obtain ⟨k, q, K, v, ps, hk, rfl, rfl, hlen, hnv, ho, hz, hr, hq, hu⟩ := hrel
    clear r2 u3 z3
    by_cases hk0 : 0 < k
    · obtain ⟨o1, c1, rfl, _, _⟩ := ho.pit
      go_wp2_with fail
      refine (pick_up R a n c q 25 wr hr (by omega) (by omega)).mono ?_
      rintro e w3 ⟨x25, rfl, hx1, hx2, r3, u3⟩
      replace hx1 := hx1 (by omega)
      clear hx2
      have ho3 := ho.upto hRB (u3 K)
      have hu3 := hu.trans (u3 B)
      have hz3 : K ≤ w3.heap.size := Nat.le_trans hz (u3 0).size
      clear u3 ho hu hr
      go_wp2_with fail
      obtain ⟨X, hX⟩ : ∃ X, w3.heap.size = X := ⟨_, rfl⟩
      rw [hX] at hz3 ⊢
      obtain ⟨W4, hW4⟩ : ∃ W4, W4 = w3.alloc (.cells #[.int .i64 ((x25 : Int) - 12), .slice none 0 0] 28) := ⟨_, rfl⟩
      have hBX : B ≤ X := by have := hu3.size; omega
      have b4 : Below X w3 W4 := by rw [hW4, ← hX]; exact (Below.refl _ _).alloc (Nat.le_refl _) _
      have d1 : W4.cell? ⟨X, 0, none⟩ = some (.int .i64 ((x25 : Int) - 12)) := by rw [hW4, ← hX]; simp
      have d2 : W4.cell? ⟨X, 1, none⟩ = some (.slice none 0 0) := by rw [hW4, ← hX]; simp
      have d3 : W4.frozen? ⟨X, 1, none⟩ = false := by rw [hW4, ← hX]; simp
      have z4 : X < W4.heap.size := by rw [hW4]; simp; omega
      rw [← hW4]
      clear hW4
      have ho4 := ho3.upto hRB (Upto.of (b4.mono hz3))
      have r4 := r3.keep hRB hcode (b4.mono hBX)
      have u4 := hu3.trans (Upto.of (b4.mono hBX))
      clear ho3 r3 hu3 b4
      go_loopw [9] (fun jj wi => ∃ (j q' : Nat) (vn : Value) (ns : List Int), j ≤ ps.length ∧ jj = .int .i64 j ∧ ns.length ≤ j ∧ wi.cell? ⟨X, 0, none⟩ = some (.int .i64 ((x25 : Int) - 12)) ∧ wi.cell? ⟨X, 1, none⟩ = some vn ∧ wi.frozen? ⟨X, 1, none⟩ = false ∧
        wi.ownsRow (X + 1) 3 1 vn ns.length (ns.map (Value.int .i64)) ∧ OwnPit wi B K (.slice o1 ps.length c1) ps ∧ X < wi.heap.size ∧ Rdr wi R a n c q' ∧ q' ≤ q + 1 + j ∧ Upto B R w wi) (fun jj _ => ps.length - (intOf jj).toNat)
      case atStart => exact ⟨0, q + 1, _, [], by omega, rfl, by simp, d1, d2, d3, World.ownsRow_nil _ _ _ _, ho4, z4, r4, by omega, u4⟩
      case round =>
        clear d1 d2 d3 z4 r4 u4 ho4
        obtain ⟨j, q', vn, ns, hj, rfl, hns, d1, d2, d3, hrow, ho, hz4, hr, hq', hu⟩ := hrel
        by_cases hlt : j < ps.length
        · go_wp2_with fail
          refine (pick_up R a n c q' 5 wr hr (by omega) (by omega)).mono ?_
          rintro e w5 ⟨x5, rfl, hx1, hx2, r5, u5⟩
          replace hx1' := hx1 (by omega)
          clear hx2 hx1
          have ho5 := ho.upto hRB (u5 K)
          have hu5 := hu.trans (u5 B)
          have z5 : X < w5.heap.size := Nat.lt_of_lt_of_le hz4 (u5 0).size
          have e1 : w5.cell? ⟨X, 0, none⟩ = some (.int .i64 ((x25 : Int) - 12)) := by rw [(u5 (X + 1)).cell (p := ⟨X, 0, none⟩) (Nat.lt_succ_self X) (by show X ≠ R; omega)]; exact d1
          have e2 : w5.cell? ⟨X, 1, none⟩ = some vn := by rw [(u5 (X + 1)).cell (p := ⟨X, 1, none⟩) (Nat.lt_succ_self X) (by show X ≠ R; omega)]; exact d2
          have e3 : w5.frozen? ⟨X, 1, none⟩ = false := by rw [(u5 (X + 1)).frozen (p := ⟨X, 1, none⟩) (Nat.lt_succ_self X) (by show X ≠ R; omega)]; exact d3
          have hrow5 := ownsRow_upto hrow (u5 (wr.heap.size)) fun k hk => ⟨(hrow.lt k hk).2, by have := (hrow.lt k hk).1; omega⟩
          clear u5 ho hu d1 d2 d3 hrow hr
          by_cases hyes : x5 < often
          · obtain ⟨an, cn, rfl, hcn, _⟩ := ints_of_owns hrow5
            go_wp2_with (at_builtin; refine appInt _ _ rfl rfl (X + 1) _ ns j _ _ rfl (World.ownsRow.alloc hrow5 _) rfl (one_cell _ _ _ _ rfl) (by omega) (by simp; omega) ?_; intro v' w6 hrow6 b6; obtain ⟨an', cn', rfl, hcn', _⟩ := ints_of_owns hrow6; have b6' : Below (X + 1) w5 w6 := ((Below.refl _ _).alloc z5 _).trans b6; have f3 : w6.frozen? ⟨X, 1, none⟩ = false := (b6'.frozen (p := ⟨X, 1, none⟩) (Nat.lt_succ_self X)).trans e3; have f2 : w6.cell? ⟨X, 1, none⟩ = some (.slice an ns.length cn) := (b6'.cell (p := ⟨X, 1, none⟩) (Nat.lt_succ_self X)).trans e2)
            have f1 : w6.cell? ⟨X, 0, none⟩ = some (.int .i64 ((x25 : Int) - 12)) := by rw [b6'.cell (p := ⟨X, 0, none⟩) (Nat.lt_succ_self X)]; exact e1
            have b7 : Below X w5 (w6.setCell ⟨X, 1, none⟩ (.slice an' (ns.length + 1) cn')) := (b6'.mono (Nat.le_succ X)).setCell (p := ⟨X, 1, none⟩) (Nat.le_refl X) _
            go_roundw
            case rel =>
              refine ⟨j + 1, q' + 1, .slice an' (ns.length + 1) cn', ns ++ [(j : Int)], by omega, by go_num, by simp; omega, ?_, ?_, ?_, ?_, ho5.upto hRB (Upto.of (b7.mono hz3)), Nat.lt_of_lt_of_le z5 b7.size, r5.keep hRB hcode (b7.mono hBX), by omega, hu5.trans (Upto.of (b7.mono hBX))⟩
              · rw [World.cell?_setCell_other _ _ _ _ (by simp)]; exact f1
              · exact World.cell?_setCell_same _ _ _ f2
              · rw [World.frozen?_setCell]; exact f3
              · have hl7 : (ns ++ [(j : Int)]).length = ns.length + 1 := by simp
                rw [hl7] at hrow6 ⊢
                exact ownsRow_upto hrow6 (Upto.tick w6.heap.size X 0 w6 _) fun k hk => ⟨(hrow6.lt k hk).2, by have := (hrow6.lt k hk).1; omega⟩
            case measure => simp [intOf] <;> omega
          · go_wp2
            go_roundw
            case rel => exact ⟨j + 1, q' + 1, vn, ns, by omega, by go_num, by omega, e1, e2, e3, hrow5, ho5, z5, r5, by omega, hu5⟩
            case measure => simp [intOf] <;> omega
        · have hjl : j = ps.length := by omega
          obtain ⟨an, cn, rfl, hcn, _⟩ := ints_of_owns hrow
          obtain ⟨hn1, hn2⟩ := needs_of_row (B := B) (wd := (x25 : Int) - 12) hrow hBX (by omega)
          have hwr : wr.heap.size < (wr.alloc (.cells #[.int .i64 ((x25 : Int) - 12), .slice an ns.length cn] 28)).heap.size := by simp
          have hKw : K ≤ wr.heap.size := by omega
          go_wp2_with (at_builtin; refine appBlk _ _ rfl rfl B K (.slice o1 ps.length c1) ps ⟨(x25 : Int) - 12, ns, an, cn⟩ wr.heap.size 1 rfl (ho.upto hRB (Upto.of ((Below.refl _ _).alloc hKw _))) rfl (by simp) (by simp) (((hn1.upto hRB (Upto.of ((Below.refl _ _).alloc (Nat.le_refl _) _)))).mono (by simp)) (fun g h1 h2 h3 => by have := hn2 g h1 h2; have := ho.2.1 g h3; omega) (by omega) (by simp; omega) ?_; intro v' w7 ho7 b7 hv7)
          have b8 : Below B wr w7 := ((Below.refl _ _).alloc (by omega) _).trans b7
          go_roundw
          case rel => exact ⟨k - 1, q', w7.heap.size, v', ps ++ [⟨(x25 : Int) - 12, ns, an, cn⟩], by omega, by go_num, rfl, by simp; omega, hv7, ho7, Nat.le_refl _, hr.keep hRB hcode b8, by omega, hu.trans (Upto.of b8)⟩
          case measure => simp [intOf] <;> omega
    · have hk00 : k = 0 := by omega
      subst hk00
      obtain ⟨o1, c1, rfl, hlc, _⟩ := ho.pit
      go_wp2_with fail
      refine (odd_up R a n c q m wr hr (by omega) hm1 (by omega)).mono ?_
      rintro e w3 ⟨bo, rfl, r3, u3⟩
      have ho3 := ho.upto hRB (u3 K)
      have hu3 := hu.trans (u3 B)
      have hz3 : K ≤ w3.heap.size := Nat.le_trans hz (u3 0).size
      clear u3 ho hu hr
      cases bo
      · go_wp2_with fail
        go_ret
        exact ⟨ps.map PB.blk, o1, c1, q + 1, by rw [List.length_map]; rfl, by simp; omega, by simp; omega, by obtain ⟨g, c', e, _⟩ := ho3.form hnv; injection e with e1; exact ⟨g, e1⟩, ho3.done hRB hz3, r3, by omega, hu3⟩
      · go_wp2_with fail
        refine (pick_up R a n c (q + 1) 3 w3 r3 (by omega) (by omega)).mono ?_
        rintro e w4 ⟨x3, rfl, hx1, hx2, r4, u4⟩
        replace hx1 := hx1 (by omega)
        clear hx2
        have ho4 := ho3.upto hRB (u4 K)
        have hu4 := hu3.trans (u4 B)
        have hz4 : K ≤ w4.heap.size := Nat.le_trans hz3 (u4 0).size
        clear u4 ho3 hu3 r3
        have hBw : B ≤ w4.heap.size := by rw [← hB]; exact hu4.size
        by_cases h0 : x3 = 0
        · subst h0
          have mk := mkBlk9
          go_wp2_with fail
          go_ret
          have bb : Below B w4 (w4.alloc (.cells (madeCells #[.int .i64 0, .slice none 0 0] 18) 28)) := (Below.refl _ _).alloc hBw _
          exact ⟨(List.replicate 9 (⟨0, [], none, 0⟩ : PB)).map PB.blk, _, 9, q + 1 + 1, rfl, by simp, by simp, ⟨_, rfl⟩, (own_nine w4 B hBw).done hRB (by simp), r4.keep hRB hcode bb, by omega, hu4.trans (Upto.of bb)⟩
        · by_cases h1 : x3 = 1
          · subst h1
            go_wp2_with fail
            go_ret
            have bb : Below B w4 ((w4.alloc (.cells #[.int .i64 0] 3)).alloc (.cells #[.int .i64 1, .slice (some ⟨w4.heap.size, 0, none⟩) 1 1] 28)) := ((Below.refl _ _).alloc hBw _).alloc (by simp; omega) _
            exact ⟨([⟨1, [0], some ⟨w4.heap.size, 0, none⟩, 1⟩] : List PB).map PB.blk, _, 1, q + 1 + 1, rfl, by simp, by simp, ⟨_, rfl⟩, (own_one w4 B 1 hBw).done hRB (by simp), r4.keep hRB hcode bb, by omega, hu4.trans (Upto.of bb)⟩
          · have h2 : x3 = 2 := by omega
            subst h2
            obtain ⟨g, c1', e1, hgc, hBg, hgK⟩ := ho4.form hnv
            injection e1 with e2 e3 e4
            subst e2 e4
            clear e3
            obtain ⟨t, oo, n', c', hmin, hsl, hoo, hn'⟩ : ∃ (t : Int) (oo n' c' : Nat), min 1 (ps.length : Int) = t ∧ (∀ W : World, (Instr.slice 23 (.slice (some ⟨g, 0, none⟩) ps.length c1) (some (.int .i64 t)) none none).run Tryd.prog W =
                  .ok (.slice (some ⟨g, oo, none⟩) n' c') W) ∧ (1 < ps.length → oo = 2) ∧ (ps.drop 1).length = n' := by
              by_cases hps : ps.length = 0
              · refine ⟨0, 0, 0, c1, by omega, fun W => ?_, by omega, by simp; omega⟩
                simp [go_sem, sliced, hps]
              · refine ⟨1, if c1 = 1 then 0 else 2, ps.length - 1, c1 - 1, by omega, fun W => ?_, fun h => by rw [if_neg (by omega)], by simp⟩
                by_cases e : c1 = 1 <;> simp [go_sem, sliced, e] <;> omega
            have hKw : K ≤ w4.heap.size := hz4
            go_wp2_with fail
            go_region_law (first
              | (refine stepHead (.tmp 56) (.tmp 61) (by rfl) (by rfl) B K g c1 oo n' c' ps (zOf y) _ (by rfl) (by first | exact Deep.blk_alloc_new _ _ | exact blk_second _ _ _) (by omega) (by omega) (hoP.upto hRB (Upto.of (by repeat (first | exact Below.refl _ _ | refine Below.drew ?_ | refine Below.alloc ?_ (by first | omega | (simp; omega)) _)))) hoo hn' (by rfl) (by omega) ?_; intro v' w7 ho7 b7 hv7)
              | (go_simp; go_at_call 79; refine (pick_up R a n c (q + 1 + 1) 2 _ (r4.keep hRB hcode (by repeat (first | exact Below.refl _ _ | refine Below.drew ?_ | refine Below.alloc ?_ (by first | omega | (simp; omega)) _))) (by omega) (by omega)).mono ?_; rintro e w5 ⟨y, rfl, hy1, hy2, r5, u5⟩; replace hy1 := hy1 (by omega); have htwo := two_at y hy1; have hcell := (u5 (w4.heap.size + 1)).cell (p := ⟨w4.heap.size, y, none⟩) (Nat.lt_succ_self _) (by show w4.heap.size ≠ R; omega); (try replace hcell := hcell.trans (htwo w4)); have hoP : OwnPit w5 B K (.slice (some ⟨g, 0, none⟩) ps.length c1) ps := ho4.upto hRB ((Upto.of (by repeat (first | exact Below.refl _ _ | refine Below.drew ?_ | refine Below.alloc ?_ (by first | omega | (simp; omega)) _))).trans (u5 K)); have z5 : w4.heap.size ≤ w5.heap.size := Nat.le_trans (by simp) (u5 0).size; have u6 : Upto B R w4 w5 := (Upto.of (by repeat (first | exact Below.refl _ _ | refine Below.drew ?_ | refine Below.alloc ?_ (by first | omega | (simp; omega)) _))).trans (u5 B)))
            all_goals
              obtain ⟨g', c2, rfl, hc2, _, _⟩ := ho7.form hv7
              have b8 : Below B w5 w7 := Below.trans (by repeat (first | exact Below.refl _ _ | refine Below.drew ?_ | refine Below.alloc ?_ (by first | omega | (simp; omega)) _)) b7
              have hlen7 : (⟨zOf y, [], none, 0⟩ :: ps.drop 1 : List PB).length = ((⟨zOf y, [], none, 0⟩ :: ps.drop 1 : List PB).map PB.blk).length := by simp
              have hfin := ho7.done hRB (Nat.le_refl _)
              rw [hlen7] at hc2 ⊢
              have hr7 := r5.keep hRB hcode b8
              have hu7 := hu4.trans (u6.trans (Upto.of b8))
              clear hcell htwo hsl hmin hn' hoo u5 u6 r5 b8 b7 ho7 hoP
              go_wp2_with fail
              go_ret
              exact ⟨_, _, c2, q + 1 + 1 + 1, rfl, by simp; omega, hc2, ⟨_, rfl⟩, hfin, hr7, by omega, hu7⟩
end Go.Proofs.YtnjpifaphmeepaaDoor
