/- Walks: spec.ReadLeg. -/
import Derived.Test.YtgggbapcpjfljaaGreatDoorTP6
import Derived.Test.YtgggbapcpjfljaaGreatDoorG19
import Derived.Deep.RegionHeld3
import Derived.Deep.DeepCutAuto
namespace Go.Proofs.YtgggbapcpjfljaaGreatDoor
open Go Go.RowKit Go.Sort

theorem At.facts5 {w : World} {X : Nat} {a b c d e : Value} (h : At w X [a, b, c, d, e]) : X < w.heap.size ∧ w.cell? ⟨X, 0, none⟩ = some a ∧ w.cell? ⟨X, 1, none⟩ = some b ∧ w.cell? ⟨X, 2, none⟩ = some c ∧ w.cell? ⟨X, 3, none⟩ = some d ∧ w.cell? ⟨X, 4, none⟩ = some e ∧ ∀ j, w.frozen? ⟨X, j, none⟩ = false :=
  ⟨h.lt, h.c 0 _ rfl, h.c 1 _ rfl, h.c 2 _ rfl, h.c 3 _ rfl, h.c 4 _ rfl, h.f⟩
theorem At.sets5 {w : World} {X : Nat} {u0 u1 u2 u3 u4 : Value} (h : At w X [u0, u1, u2, u3, u4]) (a b c d e : Value) :
    At (((((w.setCell ⟨X, 0, none⟩ a).setCell ⟨X, 1, none⟩ b).setCell ⟨X, 2, none⟩ c).setCell ⟨X, 3, none⟩ d).setCell ⟨X, 4, none⟩ e) X [a, b, c, d, e] := ((((h.set 0 a).set 1 b).set 2 c).set 3 d).set 4 e
theorem below_set5 {B : Nat} {w w' : World} (h : Below B w w') {X : Nat} (hX : B ≤ X) (a b c d e : Value) : Below B w (((((w'.setCell ⟨X, 0, none⟩ a).setCell ⟨X, 1, none⟩ b).setCell ⟨X, 2, none⟩ c).setCell ⟨X, 3, none⟩ d).setCell ⟨X, 4, none⟩ e) :=
  ((((h.setCell (p := ⟨X, 0, none⟩) hX a).setCell (p := ⟨X, 1, none⟩) hX b).setCell (p := ⟨X, 2, none⟩) hX c).setCell (p := ⟨X, 3, none⟩) hX d).setCell (p := ⟨X, 4, none⟩) hX e

theorem l1Cut58 (s : ByteArray) (w : World) (hs : s.size ≤ 1048576) :
    Calls Tryz.prog 9 #[.string s, .int .u8 58] w fun e w' => ∃ a cp, e = .returned (.slice a (cutB 58 s).length cp) ∧ OwnT w' w.heap.size (.slice a (cutB 58 s).length cp) (cutB 58 s) ∧ Below w.heap.size w w' := l1Cut_any s 58 w hs
theorem l1Cut62 (s : ByteArray) (w : World) (hs : s.size ≤ 1048576) :
    Calls Tryz.prog 9 #[.string s, .int .u8 62] w fun e w' => ∃ a cp, e = .returned (.slice a (cutB 62 s).length cp) ∧ OwnT w' w.heap.size (.slice a (cutB 62 s).length cp) (cutB 62 s) ∧ Below w.heap.size w w' := l1Cut_any s 62 w hs
theorem l1Cut44 (s : ByteArray) (w : World) (hs : s.size ≤ 1048576) :
    Calls Tryz.prog 9 #[.string s, .int .u8 44] w fun e w' => ∃ a cp, e = .returned (.slice a (cutB 44 s).length cp) ∧ OwnT w' w.heap.size (.slice a (cutB 44 s).length cp) (cutB 44 s) ∧ Below w.heap.size w w' := l1Cut_any s 44 w hs

/-! ### what the cuts tell of the candidate -/
theorem cutB_list (sep : UInt8) (s : ByteArray) : cutL sep s.data.toList = (cutB sep s).map (·.data.toList) := by
  unfold cutB
  rw [List.map_map, show ((fun s : ByteArray => s.data.toList) ∘ toB) = id from funext fun l => toB_list l, List.map_id]
theorem cutL_le (sep : UInt8) : ∀ (l : List UInt8), ∀ p ∈ cutL sep l, p.length ≤ l.length
  | [], p, h => by simp [cutL] at h; simp [h]
  | c :: r, p, h => by
    have ih := cutL_le sep r
    rw [cutL] at h
    split at h
    · rcases List.mem_cons.1 h with rfl | h
      · simp
      · have := ih p h; simp; omega
    · split at h
      · rcases List.mem_cons.1 h with rfl | h
        · simp
        · cases h
      · rename_i q qs hq
        rw [hq] at ih
        rcases List.mem_cons.1 h with rfl | h
        · have := ih q (by simp); simp; omega
        · have := ih p (by simp [h]); simp; omega
theorem cutB_le {sep : UInt8} {s p : ByteArray} (h : p ∈ cutB sep s) : p.size ≤ s.size := by
  unfold cutB at h
  obtain ⟨q, hq, rfl⟩ := List.mem_map.1 h
  have := cutL_le sep _ q hq
  have e : (toB q).size = q.length := by simp [toB, ByteArray.size]
  have e2 : s.data.toList.length = s.size := rfl
  omega
theorem cand_no2 {s : ByteArray} (h : (cutB 58 s).length ≠ 2) : candL s.data.toList = none := by
  unfold candL
  rw [cutB_list]
  generalize cutB 58 s = l at h
  match l, h with
  | [], _ => rfl
  | [_], _ => rfl
  | [_, _], h => exact absurd rfl h
  | _ :: _ :: _ :: _, _ => rfl
theorem cand_no23 {s a b : ByteArray} (h : cutB 58 s = [a, b]) (h2 : (cutB 62 a).length ≠ 2 ∨ (cutB 44 b).length ≠ 3) : candL s.data.toList = none := by
  unfold candL
  rw [cutB_list, h]
  simp only [List.map_cons, List.map_nil]
  rw [cutB_list, cutB_list]
  generalize cutB 62 a = l at h2
  generalize cutB 44 b = m at h2
  match l, m, h2 with
  | [_, _], [_, _, _], h => rcases h with h | h <;> exact absurd rfl h
  | [_, _], [], _ => rfl
  | [_, _], [_], _ => rfl
  | [_, _], [_, _], _ => rfl
  | [_, _], _ :: _ :: _ :: _ :: _, _ => rfl
  | [], _, _ => rfl
  | [_], _, _ => rfl
  | _ :: _ :: _ :: _, _, _ => rfl
theorem cand_yes {s a b f t x y z : ByteArray} (h : cutB 58 s = [a, b]) (h2 : cutB 62 a = [f, t]) (h3 : cutB 44 b = [x, y, z]) : candL s.data.toList = some ⟨rdL f.data.toList, rdL t.data.toList, rdL x.data.toList, rdL y.data.toList, rdL z.data.toList⟩ := by
  unfold candL
  rw [cutB_list, h]
  simp only [List.map_cons, List.map_nil]
  rw [cutB_list, cutB_list, h2, h3]
  rfl
theorem rdLegD_cand_no {s : ByteArray} (h : candL s.data.toList = none) : rdLegD s = (noLeg, false) := by
  refine rdLegD_none ?_
  unfold rdLeg
  rw [h]
theorem rdLegD_yes {s : ByteArray} {g : Lg} (h : candL s.data.toList = some g) (h2 : legB g = s ∧ s.size ≠ 0) : rdLegD s = (g, true) := by
  refine rdLegD_some ?_
  unfold rdLeg
  rw [h]
  show (if legB g = s ∧ s.size ≠ 0 then some g else none) = some g
  rw [if_pos h2]
theorem rdLegD_not {s : ByteArray} {g : Lg} (h : candL s.data.toList = some g) (h2 : ¬ (legB g = s ∧ s.size ≠ 0)) : rdLegD s = (noLeg, false) := by
  refine rdLegD_none ?_
  unfold rdLeg
  rw [h]
  show (if legB g = s ∧ s.size ≠ 0 then some g else none) = none
  rw [if_neg h2]

theorem rdL_range (l : List UInt8) : -9999 ≤ rdL l ∧ rdL l ≤ 9999 := by
  have h1 := digL_range l
  have h2 := digL_range l.tail
  unfold rdL
  split
  · omega
  · split <;> omega

/-- a leg comes back, and whether it is one -/
def LgOut (p : Lg × Bool) (w : World) (e : Ending) (w' : World) : Prop := e = .returned (.tuple #[.agg #[.int .i64 p.1.frm, .int .i64 p.1.to, .int .i64 p.1.east, .int .i64 p.1.north, .int .i64 p.1.up], .bool p.2]) ∧ Below w.heap.size w w'

theorem two_list {l : List ByteArray} (h : l.length = 2) : ∃ a b, l = [a, b] := by
  match l, h with
  | [a, b], _ => exact ⟨a, b, rfl⟩
theorem three_list {l : List ByteArray} (h : l.length = 3) : ∃ a b c, l = [a, b, c] := by
  match l, h with
  | [a, b, c], _ => exact ⟨a, b, c, rfl⟩
theorem OwnT.cells {w : World} {B : Nat} {a : Option Addr} {n c : Nat} {l : List ByteArray} (h : OwnT w B (.slice a n c) l) (h0 : 0 < l.length) : ∃ b, a = some ⟨b, 0, none⟩ ∧ B ≤ b ∧ b < w.heap.size ∧ ∀ k, k < l.length → w.cell? ⟨b, k, none⟩ = some (.string (nth l k)) := by
  obtain ⟨a', c', e, _, _, hr, _, ho⟩ := h.form
  cases e
  obtain ⟨b, off, rfl, hb, hc⟩ := Rd.at hr h0
  obtain ⟨h1, h2, _, rfl⟩ := ho b off rfl
  refine ⟨b, rfl, h1, h2, fun k hk => ?_⟩
  have := hc k hk 0 _ rfl
  simpa [strK, Kind.lay] using this

theorem run_strNe (a b : ByteArray) : (a.toList != b.toList) = !decide (a = b) := by
  rw [Lib.toList_data, Lib.toList_data]
  by_cases h : a = b
  · subst h; simp
  · have : a.data.toList ≠ b.data.toList := fun e => h (ByteArray.ext (Array.ext' e))
    simp [h, this]
theorem isEmpty_size (s : ByteArray) : s.toList.isEmpty = decide (s.size = 0) := by
  rw [Lib.toList_data]
  have e : s.size = s.data.toList.length := rfl
  rw [e]
  cases s.data.toList <;> simp

set_option maxRecDepth 100000 in
set_option maxHeartbeats 1000000 in
theorem sreadLeg_no2 (s : ByteArray) (w : World) (hs : s.size ≤ 1048576) (h2 : (cutB 58 s).length ≠ 2) : Calls Tryz.prog 26 #[.string s] w (LgOut (noLeg, false) w) := by
    simp only [noLeg]
    have hn : ((cutB 58 s).length : Int) ≠ 2 := by omega
    obtain ⟨N, hN⟩ : ∃ N, N = (cutB 58 s).length := ⟨_, rfl⟩
    rw [← hN] at hn h2
    go_enter Tryz.func26, Tryz.ntmps26
    go_wp2_with fail
    obtain ⟨X, hX⟩ : ∃ X, w.heap.size = X := ⟨_, rfl⟩
    obtain ⟨W0, hW0⟩ : ∃ W0, W0 = w.alloc (.cells #[.int .i64 0, .int .i64 0, .int .i64 0, .int .i64 0, .int .i64 0] 39) := ⟨_, rfl⟩
    have F0 : At W0 X [.int .i64 0, .int .i64 0, .int .i64 0, .int .i64 0, .int .i64 0] := by rw [hW0]; exact At.new _ _ _ hX.symm rfl
    have b0 : Below w.heap.size w W0 := by rw [hW0]; exact (by repeat (first | with_reducible assumption | exact Below.refl _ _ | refine below_drewN ?_ _ | refine Below.drew ?_ | refine Below.alloc ?_ (by first | omega | (simp; done) | (simp; omega)) _ | refine Below.setCell ?_ (by first | omega | (simp; done) | (simp; omega)) _))
    rw [hX, ← hW0]
    clear hW0
    refine (l1Cut58 s _ hs).mono ?_
    rintro e w1 ⟨a1, c1, rfl, o1, b1⟩
    rw [← hN]
    replace F0 := F0.below b1
    replace b0 := b0.trans (b1.mono b0.size)
    clear b1 o1 hN
    obtain ⟨r, r0, r1, r2, r3, r4, rf⟩ := F0.facts5
    clear F0
    go_wp2_with fail
    refine bodyPost_ret (v := .tuple #[.agg #[.int .i64 0, .int .i64 0, .int .i64 0, .int .i64 0, .int .i64 0], .bool false]) (by simp [results, Tryz.results26, go_sem, r0, r1, r2, r3, r4]) rfl ⟨rfl, ?_⟩
    exact below_set5 b0 (by omega) _ _ _ _ _

set_option maxRecDepth 100000 in
set_option maxHeartbeats 1000000 in
theorem sreadLeg_no23 (s p q : ByteArray) (w : World) (hs : s.size ≤ 1048576) (hpq : cutB 58 s = [p, q]) (h2 : (cutB 62 p).length ≠ 2 ∨ (cutB 44 q).length ≠ 3) : Calls Tryz.prog 26 #[.string s] w (LgOut (noLeg, false) w) := by
    simp only [noLeg]
    have hp : p.size ≤ 1048576 := Nat.le_trans (cutB_le (sep := 58) (s := s) (by rw [hpq]; simp)) hs
    have hq : q.size ≤ 1048576 := Nat.le_trans (cutB_le (sep := 58) (s := s) (by rw [hpq]; simp)) hs
    obtain ⟨N, hN⟩ : ∃ N, N = (cutB 62 p).length := ⟨_, rfl⟩
    obtain ⟨M, hM⟩ : ∃ M, M = (cutB 44 q).length := ⟨_, rfl⟩
    rw [← hN, ← hM] at h2
    have i1 := l1Cut58 s
    rw [hpq] at i1
    simp only [List.length_cons, List.length_nil, Nat.zero_add] at i1
    clear hpq
    go_enter Tryz.func26, Tryz.ntmps26
    go_wp2_with fail
    obtain ⟨X, hX⟩ : ∃ X, w.heap.size = X := ⟨_, rfl⟩
    obtain ⟨W0, hW0⟩ : ∃ W0, W0 = w.alloc (.cells #[.int .i64 0, .int .i64 0, .int .i64 0, .int .i64 0, .int .i64 0] 39) := ⟨_, rfl⟩
    have F0 : At W0 X [.int .i64 0, .int .i64 0, .int .i64 0, .int .i64 0, .int .i64 0] := by rw [hW0]; exact At.new _ _ _ hX.symm rfl
    have b0 : Below w.heap.size w W0 := by rw [hW0]; exact (by repeat (first | with_reducible assumption | exact Below.refl _ _ | refine below_drewN ?_ _ | refine Below.drew ?_ | refine Below.alloc ?_ (by first | omega | (simp; done) | (simp; omega)) _ | refine Below.setCell ?_ (by first | omega | (simp; done) | (simp; omega)) _))
    rw [hX, ← hW0]
    clear hW0
    refine (i1 _ hs).mono ?_
    rintro e w1 ⟨a1, c1, rfl, o1, b1⟩
    replace F0 := F0.below b1
    replace b0 := b0.trans (b1.mono b0.size)
    clear b1 i1
    obtain ⟨B1, rfl, hB1, hl1, hc1⟩ := OwnT.cells o1 (by simp)
    have m0 : w1.cell? ⟨B1, 0, none⟩ = some (.string p) := hc1 0 (by simp)
    have m1 : w1.cell? ⟨B1, 1, none⟩ = some (.string q) := hc1 1 (by simp)
    clear hc1 o1
    go_wp2_with fail
    refine (l1Cut62 p _ hp).mono ?_
    rintro e w2 ⟨a2, c2, rfl, o2, b2⟩
    rw [← hN]
    replace F0 := F0.below b2
    replace b0 := b0.trans (b2.mono b0.size)
    replace m1 := (b2.cell (p := ⟨B1, 1, none⟩) hl1).trans m1
    have hl2 := Nat.lt_of_lt_of_le hl1 b2.size
    clear b2 o2 hN m0 hl1
    go_wp2_with fail
    refine (l1Cut44 q _ hq).mono ?_
    rintro e w3 ⟨a3, c3, rfl, o3, b3⟩
    rw [← hM]
    replace F0 := F0.below b3
    replace b0 := b0.trans (b3.mono b0.size)
    clear b3 o3 hM m1 hl2
    obtain ⟨r, r0, r1, r2, r3, r4, rf⟩ := F0.facts5
    clear F0
    by_cases hN2 : N = 2
    · subst hN2
      have hM3 : (M : Int) ≠ 3 := by omega
      clear h2
      go_wp2_with fail
      refine bodyPost_ret (v := .tuple #[.agg #[.int .i64 0, .int .i64 0, .int .i64 0, .int .i64 0, .int .i64 0], .bool false]) (by simp [results, Tryz.results26, go_sem, r0, r1, r2, r3, r4]) rfl ⟨rfl, ?_⟩
      exact below_set5 b0 (by omega) _ _ _ _ _
    · have hN3 : (N : Int) ≠ 2 := by omega
      clear h2
      go_wp2_with fail
      refine bodyPost_ret (v := .tuple #[.agg #[.int .i64 0, .int .i64 0, .int .i64 0, .int .i64 0, .int .i64 0], .bool false]) (by simp [results, Tryz.results26, go_sem, r0, r1, r2, r3, r4]) rfl ⟨rfl, ?_⟩
      exact below_set5 b0 (by omega) _ _ _ _ _
end Go.Proofs.YtgggbapcpjfljaaGreatDoor
