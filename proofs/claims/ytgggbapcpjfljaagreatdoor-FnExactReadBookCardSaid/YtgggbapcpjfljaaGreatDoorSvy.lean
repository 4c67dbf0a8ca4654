/- Legs, surveys, deeds and books as plain data, and how they lie in memory: read-only ('KRd') and owned ('KOwn'). No program but its types' numbers. -/
import Derived.Test.YtgggbapcpjfljaaGreatDoorMem
import Derived.Maps.AppendAt
import Derived.Below
import Derived.OneCell
namespace Go.Proofs.YtgggbapcpjfljaaGreatDoor
open Go Go.RowKit

/-! ### kinds of elements: so many cells each -/
structure Kind (α : Type) where
  sz : Nat
  cells : α → List Value
  len : ∀ x, (cells x).length = sz
  one : ∀ x, ∀ u ∈ cells x, u.oneCell' = true

section
variable {α : Type} {K : Kind α}

def Kind.flat (K : Kind α) (xs : List α) : List Value := xs.flatMap K.cells
theorem flat_nil : K.flat [] = [] := rfl
theorem flat_cons (x : α) (l : List α) : K.flat (x :: l) = K.cells x ++ K.flat l := by simp [Kind.flat]
theorem flat_append (xs ys : List α) : K.flat (xs ++ ys) = K.flat xs ++ K.flat ys := by simp [Kind.flat]
theorem flat_length [Inhabited α] : ∀ (xs : List α), (K.flat xs).length = xs.length * K.sz
  | [] => by simp [flat_nil]
  | x :: l => by rw [flat_cons, List.length_append, K.len, flat_length l, List.length_cons, Nat.succ_mul]; omega
theorem flat_one (xs : List α) : ∀ u ∈ K.flat xs, u.oneCell' = true := by
  intro u hu
  obtain ⟨x, _, h⟩ := List.mem_flatMap.1 hu
  exact K.one x u h
theorem flat_get [Inhabited α] : ∀ (xs : List α) (k j : Nat), k < xs.length → j < K.sz → (K.flat xs)[k * K.sz + j]? = (K.cells (nth xs k))[j]?
  | [], k, j, h, _ => by simp at h
  | x :: l, 0, j, _, hj => by
    rw [flat_cons, Nat.zero_mul, Nat.zero_add, List.getElem?_append_left (by rw [K.len]; exact hj)]
    rfl
  | x :: l, k + 1, j, h, hj => by
    rw [flat_cons, List.getElem?_append_right (by rw [K.len, Nat.succ_mul]; omega), K.len, show (k + 1) * K.sz + j - K.sz = k * K.sz + j by rw [Nat.succ_mul]; omega]
    exact flat_get l k j (by simpa using h) hj
theorem flat_split [Inhabited α] (xs : List α) {i : Nat} {u : Value} (h : (K.flat xs)[i]? = some u) : ∃ k j, k < xs.length ∧ j < K.sz ∧ i = k * K.sz + j ∧ (K.cells (nth xs k))[j]? = some u := by
  have hi : i < xs.length * K.sz := by
    have := (List.getElem?_eq_some_iff.1 h).1
    rwa [flat_length] at this
  have hp : 0 < K.sz := Nat.pos_of_ne_zero fun e => by rw [e] at hi; simp at hi
  have hk : i / K.sz < xs.length := Nat.div_lt_of_lt_mul (by rw [Nat.mul_comm]; exact hi)
  have hj : i % K.sz < K.sz := Nat.mod_lt _ hp
  have e : i = i / K.sz * K.sz + i % K.sz := by rw [Nat.mul_comm]; exact (Nat.div_add_mod _ _).symm
  refine ⟨_, _, hk, hj, e, ?_⟩
  rw [← flat_get xs _ _ hk hj, ← e]; exact h

def Kind.lay (K : Kind α) : Lay α where
  sz := K.sz
  At w b o x := ∀ j u, (K.cells x)[j]? = some u → w.cell? ⟨b, o + j, none⟩ = some u
  keep := fun hc _ h j u hj => (hc _ _ (cell_lt (h j u hj))).trans (h j u hj)
/-- a list of such elements, read from `a` on -/
abbrev KRd [Inhabited α] (K : Kind α) (w : World) (a : Option Addr) (xs : List α) : Prop := Rd K.lay w a xs

theorem KRd.mk [Inhabited α] {w : World} {b off : Nat} {xs : List α} (hb : b < w.heap.size) (h : ∀ j u, (K.flat xs)[j]? = some u → w.cell? ⟨b, off + j, none⟩ = some u) : KRd K w (some ⟨b, off, none⟩) xs :=
  .inr ⟨b, off, rfl, hb, fun k hk j u hj => by
    have hjs : j < K.sz := by have := (List.getElem?_eq_some_iff.1 hj).1; rwa [K.len] at this
    have := h (k * K.sz + j) u (by rw [flat_get xs k j hk hjs]; exact hj)
    rw [← Nat.add_assoc] at this; exact this⟩
theorem KRd.cells [Inhabited α] {w : World} {b off : Nat} {xs : List α} (h : KRd K w (some ⟨b, off, none⟩) xs) : ∀ j u, (K.flat xs)[j]? = some u → w.cell? ((⟨b, off, none⟩ : Addr).add j) = some u := by
  intro i u hi
  obtain ⟨k, j, hk, _, e, hu⟩ := flat_split xs hi
  obtain ⟨b', off', e', _, hc⟩ := Rd.at h hk
  cases e'
  rw [Addr.add_lit, e, ← Nat.add_assoc]
  exact hc k hk j u hu
theorem KRd.cellsA [Inhabited α] {w : World} {ad : Addr} {xs : List α} (h : KRd K w (some ad) xs) : ∀ j u, (K.flat xs)[j]? = some u → w.cell? (ad.add j) = some u := by
  rcases h with e | ⟨b, off, e, hb, hc⟩
  · intro j u hj; rw [e] at hj; simp [flat_nil] at hj
  · cases e
    exact KRd.cells (.inr ⟨b, off, rfl, hb, hc⟩)
theorem KRd.empty [Inhabited α] {w : World} {xs : List α} (h : KRd K w none xs) : xs = [] := by
  rcases h with e | ⟨b, off, e, _⟩
  · exact e
  · cases e
theorem KRd.lt [Inhabited α] {w : World} {b off : Nat} {xs : List α} (h : KRd K w (some ⟨b, off, none⟩) xs) (h0 : 0 < xs.length) : b < w.heap.size := by
  obtain ⟨b', off', e', hb, _⟩ := Rd.at h h0
  cases e'; exact hb
theorem KRd.addr [Inhabited α] {w : World} {a : Option Addr} {xs : List α} (h : KRd K w a xs) (h0 : 0 < xs.length) : ∃ b off, a = some ⟨b, off, none⟩ ∧ b < w.heap.size := by
  obtain ⟨b, off, e, hb, _⟩ := Rd.at h h0
  exact ⟨b, off, e, hb⟩
/-- a part of what is read, from an element on -/
theorem KRd.drop [Inhabited α] {w : World} {b off : Nat} {xs : List α} (h : KRd K w (some ⟨b, off, none⟩) xs) (i : Nat) : KRd K w (some ⟨b, off + i * K.sz, none⟩) (xs.drop i) := by
  by_cases hi : i < xs.length
  · obtain ⟨b', off', e, hb, hc⟩ := Rd.at h hi
    cases e
    refine .inr ⟨b, _, rfl, hb, fun k hk => ?_⟩
    simp only [List.length_drop] at hk
    have := hc (i + k) (by omega)
    rw [nth_drop]
    have e : off + i * K.sz + k * K.sz = off + (i + k) * K.sz := by rw [Nat.add_mul, Nat.add_assoc]
    show K.lay.At w b (off + i * K.sz + k * K.sz) _
    rw [e]; exact this
  · exact .inl (List.drop_eq_nil_of_le (by omega))
theorem KRd.take [Inhabited α] {w : World} {a : Option Addr} {xs : List α} (h : KRd K w a xs) (i : Nat) : KRd K w a (xs.take i) := by
  rcases h with e | ⟨b, off, e, hb, hc⟩
  · exact .inl (by simp [e])
  · refine .inr ⟨b, off, e, hb, fun k hk => ?_⟩
    simp only [List.length_take] at hk
    rw [nth_take (by omega)]
    exact hc k (by omega)
theorem KRd.grown [Inhabited α] {w w' : World} {row : Option Nat} {a : Option Addr} {xs : List α} (h : KRd K w a xs) (hg : w.grownBy w' row) (hne : ∀ b o, 0 < xs.length → a = some ⟨b, o, none⟩ → row ≠ some b) : KRd K w' a xs := by
  rcases h with e | ⟨b, off, e, hb, h⟩
  · exact .inl e
  · by_cases h0 : 0 < xs.length
    · refine .inr ⟨b, off, e, Nat.lt_of_lt_of_le hb hg.size, fun k hk j u hj => ?_⟩
      have := h k hk j u hj
      rw [World.cell?_of_block (a := ⟨b, off + k * K.lay.sz + j, none⟩) (hg.block b hb (fun e' => hne b off h0 e e'.symm))]; exact this
    · exact .inl (List.eq_nil_of_length_eq_zero (by omega))
theorem KRd.setCell [Inhabited α] {w : World} {a : Option Addr} {xs : List α} (h : KRd K w a xs) (p : Addr) (v : Value) (hne : ∀ b o, a = some ⟨b, o, none⟩ → b ≠ p.block) : KRd K (w.setCell p v) a xs := by
  rcases h with e | ⟨b, off, e, hb, h⟩
  · exact .inl e
  · refine .inr ⟨b, off, e, by simpa [World.setCell] using hb, fun k hk j u hj => ?_⟩
    rw [World.cell?_of_block (w := w) (Deep.blk_setCell_other _ _ _ _ (hne b off e))]
    exact h k hk j u hj

/-! ### the call's own -/
def KOwn (K : Kind α) (T : TypeId) (w : World) (B : Nat) (v : Value) (xs : List α) : Prop := w.ownsRow B T K.sz v xs.length (K.flat xs)
variable {T : TypeId} {w w' : World} {B : Nat} {v : Value} {xs : List α}
theorem KOwn.below (h : KOwn K T w B v xs) (hb : Below w.heap.size w w') : KOwn K T w' B v xs := ownsRow_below h hb
theorem KOwn.alloc [Inhabited α] (h : KOwn K T w B v xs) (o : Obj) : KOwn K T (w.alloc o) B v xs := h.below ((Below.refl _ _).alloc (Nat.le_refl _) o)
theorem KOwn.mono (h : KOwn K T w B v xs) {B' : Nat} (hB : B' ≤ B) : KOwn K T w B' v xs := ownsRow_mono h hB
theorem KOwn.setCell (h : KOwn K T w B v xs) {p : Addr} (hp : p.block < B) (u : Value) : KOwn K T (w.setCell p u) B v xs := ownsRow_setCell_below h hp u
theorem KOwn.setOther (h : KOwn K T w B v xs) {p : Addr} (hp : v.ownBlock ≠ some p.block) (u : Value) : KOwn K T (w.setCell p u) B v xs := ownsRow_setCell_other h hp u
theorem KOwn.nil : KOwn K T w B (.slice none 0 0) ([] : List α) := World.ownsRow_nil _ _ _ _
theorem KOwn.lit (w : World) (B : Nat) (hB : B ≤ w.heap.size) : KOwn K T (w.alloc (.cells #[] T)) B (.slice (some ⟨w.heap.size, 0, none⟩) 0 0) ([] : List α) := by
  refine World.ownsRow_lit w #[] 0 hB (by decide) (by simp)
theorem KOwn.form [Inhabited α] (h : KOwn K T w B v xs) : ∃ a c, v = .slice a xs.length c ∧ xs.length ≤ c ∧ c ≤ maxLen ∧ KRd K w a xs ∧ (a = none → v = .slice none 0 0) ∧ ∀ b o, a = some ⟨b, o, none⟩ → B ≤ b ∧ b < w.heap.size ∧ v.ownBlock = some b ∧ o = 0 := by
  have h0 := h
  rcases h.2 with ⟨e, hn⟩ | ⟨g, cap, cur, e, hB, hg, hn, hc, hs, ht⟩
  · exact ⟨none, 0, by rw [e, hn], by omega, by omega, .inl (List.eq_nil_of_length_eq_zero hn), fun _ => e, fun b o e => by cases e⟩
  · have hlt := (Array.getElem?_eq_some_iff.1 hg).1
    refine ⟨some ⟨g, 0, none⟩, cap, e, hn, hc, KRd.mk hlt fun j u hu => ?_, fun e => by simp at e, fun b o e' => by cases e'; exact ⟨hB, hlt, by rw [e]; rfl, rfl⟩⟩
    have := World.ownsRow.cells h0 (g := g) (by rw [e]; rfl) j u hu
    rwa [Addr.add_lit] at this
theorem KOwn.rd [Inhabited α] (h : KOwn K T w B v xs) : ∃ a c, v = .slice a xs.length c ∧ xs.length ≤ c ∧ c ≤ 9223372036854775807 ∧ KRd K w a xs := by
  obtain ⟨a, c, h1, h2, h3, h4, _⟩ := h.form
  exact ⟨a, c, h1, h2, by unfold maxLen at h3; omega, h4⟩
theorem KOwn.sl [Inhabited α] (h : KOwn K T w B v xs) : ∃ a c, v = .slice a xs.length c := by
  obtain ⟨a, c, h1, _⟩ := h.form
  exact ⟨a, c, h1⟩
/-- as a row by index -/
theorem KOwn.row (h : KOwn K T w B v xs) (h0 : 0 < xs.length) : ∃ g cap f, v = .slice (some ⟨g, 0, none⟩) xs.length cap ∧ B ≤ g ∧ xs.length ≤ cap ∧ cap ≤ maxLen ∧ w.rowIs g T (cap * K.sz) f ∧ ∀ j u, (K.flat xs)[j]? = some u → f j = u := by
  rcases h.2 with ⟨_, hn⟩ | ⟨g, cap, cur, e, hB, hg, hn, hc, hs, ht⟩
  · omega
  · refine ⟨g, cap, fun i => cur.getD i undef, e, hB, hn, hc, ⟨cur, hg, hs, fun i hi => by simp [hs, hi]⟩, fun j u hj => ?_⟩
    rw [← ht] at hj
    have hjl := (List.getElem?_eq_some_iff.1 hj).1
    simp only [List.length_take] at hjl
    rw [List.getElem?_take_of_lt (by omega)] at hj
    simp at hj
    simp [hj]
theorem KOwn.ofRow [Inhabited α] {g cap : Nat} {f : Nat → Value} (hB : B ≤ g) (hn : xs.length ≤ cap) (hc : cap ≤ maxLen) (hr : w.rowIs g T (cap * K.sz) f) (hf : ∀ j u, (K.flat xs)[j]? = some u → f j = u) : KOwn K T w B (.slice (some ⟨g, 0, none⟩) xs.length cap) xs := by
  obtain ⟨cur, hg, hs, hcur⟩ := hr
  refine ⟨flat_length xs, .inr ⟨g, cap, cur, rfl, hB, hg, hn, hc, hs, ?_⟩⟩
  have hle : xs.length * K.sz ≤ cap * K.sz := Nat.mul_le_mul_right _ hn
  apply List.ext_getElem?
  intro j
  by_cases hj : j < xs.length * K.sz
  · rw [List.getElem?_take_of_lt hj, Array.getElem?_toList, hcur j (by omega)]
    have hj' : j < (K.flat xs).length := by rw [flat_length]; exact hj
    rw [List.getElem?_eq_getElem hj']
    congr 1
    exact hf j _ (List.getElem?_eq_getElem hj')
  · rw [List.getElem?_eq_none (by simp; omega), List.getElem?_eq_none (by rw [flat_length]; omega)]
end

/-! ### legs, deeds -/
structure Lg where
  frm : Int
  to : Int
  east : Int
  north : Int
  up : Int
  deriving DecidableEq, Inhabited
def Lg.val (g : Lg) : Value := .agg #[.int .i64 g.frm, .int .i64 g.to, .int .i64 g.east, .int .i64 g.north, .int .i64 g.up]
def legK : Kind Lg where
  sz := 5
  cells g := [.int .i64 g.frm, .int .i64 g.to, .int .i64 g.east, .int .i64 g.north, .int .i64 g.up]
  len _ := rfl
  one _ u hu := by simp only [List.mem_cons, List.not_mem_nil, or_false] at hu; rcases hu with rfl | rfl | rfl | rfl | rfl <;> rfl
abbrev Legs := KRd legK
theorem Legs.at {w : World} {a : Option Addr} {xs : List Lg} (h : Legs w a xs) {k : Nat} (hk : k < xs.length) :
    ∃ b off, a = some ⟨b, off, none⟩ ∧ b < w.heap.size ∧ w.cell? ⟨b, off + k * 5, none⟩ = some (.int .i64 (nth xs k).frm) ∧ w.cell? ⟨b, off + k * 5 + 1, none⟩ = some (.int .i64 (nth xs k).to) ∧
      w.cell? ⟨b, off + k * 5 + 2, none⟩ = some (.int .i64 (nth xs k).east) ∧ w.cell? ⟨b, off + k * 5 + 3, none⟩ = some (.int .i64 (nth xs k).north) ∧ w.cell? ⟨b, off + k * 5 + 4, none⟩ = some (.int .i64 (nth xs k).up) := by
  obtain ⟨b, off, e, hb, h⟩ := Rd.at h hk
  have := h k hk
  exact ⟨b, off, e, hb, this 0 _ rfl, this 1 _ rfl, this 2 _ rfl, this 3 _ rfl, this 4 _ rfl⟩

structure Dd where
  kind : Int
  index : Int
  leg : Lg
  deriving DecidableEq, Inhabited
def Dd.val (d : Dd) : Value := .agg #[.int .i64 d.kind, .int .i64 d.index, .int .i64 d.leg.frm, .int .i64 d.leg.to, .int .i64 d.leg.east, .int .i64 d.leg.north, .int .i64 d.leg.up]
def ddK : Kind Dd where
  sz := 7
  cells d := [.int .i64 d.kind, .int .i64 d.index, .int .i64 d.leg.frm, .int .i64 d.leg.to, .int .i64 d.leg.east, .int .i64 d.leg.north, .int .i64 d.leg.up]
  len _ := rfl
  one _ u hu := by simp only [List.mem_cons, List.not_mem_nil, or_false] at hu; rcases hu with rfl | rfl | rfl | rfl | rfl | rfl | rfl <;> rfl
abbrev Dds := KRd ddK
theorem Dds.at {w : World} {a : Option Addr} {xs : List Dd} (h : Dds w a xs) {k : Nat} (hk : k < xs.length) :
    ∃ b off, a = some ⟨b, off, none⟩ ∧ b < w.heap.size ∧ w.cell? ⟨b, off + k * 7, none⟩ = some (.int .i64 (nth xs k).kind) ∧ w.cell? ⟨b, off + k * 7 + 1, none⟩ = some (.int .i64 (nth xs k).index) ∧ w.cell? ⟨b, off + k * 7 + 2, none⟩ = some (.int .i64 (nth xs k).leg.frm) ∧ w.cell? ⟨b, off + k * 7 + 3, none⟩ = some (.int .i64 (nth xs k).leg.to) ∧
      w.cell? ⟨b, off + k * 7 + 4, none⟩ = some (.int .i64 (nth xs k).leg.east) ∧ w.cell? ⟨b, off + k * 7 + 5, none⟩ = some (.int .i64 (nth xs k).leg.north) ∧ w.cell? ⟨b, off + k * 7 + 6, none⟩ = some (.int .i64 (nth xs k).leg.up) := by
  obtain ⟨b, off, e, hb, h⟩ := Rd.at h hk
  have := h k hk
  exact ⟨b, off, e, hb, this 0 _ rfl, this 1 _ rfl, this 2 _ rfl, this 3 _ rfl, this 4 _ rfl, this 5 _ rfl, this 6 _ rfl⟩

structure Sv where
  st : Int
  legs : List Lg
  deriving DecidableEq, Inhabited
structure Bk where
  first : Sv
  done : List Dd
  undone : List Dd
  deriving DecidableEq, Inhabited
end Go.Proofs.YtgggbapcpjfljaaGreatDoor
