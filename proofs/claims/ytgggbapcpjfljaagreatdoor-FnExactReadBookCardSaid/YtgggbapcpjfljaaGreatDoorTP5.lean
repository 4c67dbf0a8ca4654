/- Plain law of the readings: what the library's cuts give at a separator of one byte; legs read back; numbers read by Atoi. -/
import Derived.Test.YtgggbapcpjfljaaGreatDoorTP4
import Derived.Lib.SplitLaws
import Derived.Lib.CutLaws
import Derived.Lib.AtoiAll
namespace Go.Proofs.YtgggbapcpjfljaaGreatDoor
open Go Go.RowKit

theorem index_no {c : UInt8} : ∀ {s : List UInt8}, c ∉ s → Lib.index s [c] = -1
  | [], _ => rfl
  | b :: l, h => by
    have h1 : ¬ c = b := fun e => h (by simp [e])
    have h2 : c ∉ l := fun e => h (by simp [e])
    have h3 : (c == b) = false := by simpa using h1
    rw [Lib.index]
    simp [List.isPrefixOf, h3, index_no h2]
theorem index_app {c : UInt8} (r : List UInt8) : ∀ {p : List UInt8}, c ∉ p → Lib.index (p ++ c :: r) [c] = p.length
  | [], _ => by simp [Lib.index, List.isPrefixOf]
  | b :: l, h => by
    have h1 : ¬ c = b := fun e => h (by simp [e])
    have h2 : c ∉ l := fun e => h (by simp [e])
    have h3 : (c == b) = false := by simpa using h1
    have ih := index_app r h2
    rw [List.cons_append, Lib.index]
    have h4 : ¬ ((l.length : Int) = -1) := by omega
    simp [List.isPrefixOf, h3, ih, h4]
theorem cut_no {c : UInt8} {s : List UInt8} (h : c ∉ s) : Lib.cut s [c] = (s, [], false) := by
  unfold Lib.cut; rw [index_no h]; rfl
theorem cut_app {c : UInt8} {p : List UInt8} (r : List UInt8) (h : c ∉ p) : Lib.cut (p ++ c :: r) [c] = (p, r, true) := by
  unfold Lib.cut; rw [index_app r h, if_pos (by omega)]
  simp [List.take_append, List.drop_append]
theorem splitK_cut {c : UInt8} : ∀ (k : Nat) (s : List UInt8), s.count c ≤ k → Lib.splitK [c] 0 k s = cutL c s
  | k, s, h => by
    by_cases hc : c ∈ s
    · obtain ⟨p, r, rfl, hp⟩ := List.eq_append_cons_of_mem hc
      have hcount : (p ++ c :: r).count c = r.count c + 1 := by
        rw [List.count_append, List.count_eq_zero.2 hp, List.count_cons_self, Nat.zero_add]
      obtain ⟨k, rfl⟩ : ∃ q, k = q + 1 := ⟨k - 1, by omega⟩
      rw [Lib.splitK, index_app r hp, if_neg (by rw [beq_iff_eq]; omega), cutL_app r hp]
      have ih := splitK_cut (c := c) k r (by omega)
      simp only [Nat.add_zero, Int.toNat_natCast, List.length_singleton]
      rw [show (p ++ c :: r).take p.length = p by simp, show (p ++ c :: r).drop (p.length + 1) = r by simp [List.drop_append], ih]
    · rw [cutL_none hc]
      cases k with
      | zero => rfl
      | succ k => rw [Lib.splitK, index_no hc, if_pos (by rfl)]
theorem splitB_cut {c : UInt8} {s : ByteArray} {k : Nat} (h : s.data.toList.count c ≤ k) : Lib.splitB ⟨#[c]⟩ 0 k s = cutB c s := by
  have e := Lib.splitB_data ⟨#[c]⟩ 0 k s
  rw [show (⟨#[c]⟩ : ByteArray).data.toList = [c] from rfl, splitK_cut k _ h] at e
  unfold cutB
  rw [← e, List.map_map, show (toB ∘ fun s : ByteArray => s.data.toList) = id from funext fun s => toB_data s, List.map_id]
theorem splitB_all_cut (c : UInt8) (s : ByteArray) : Lib.splitB ⟨#[c]⟩ 0 (Lib.countB s ⟨#[c]⟩) s = cutB c s :=
  splitB_cut (by unfold Lib.countB; rw [show (⟨#[c]⟩ : ByteArray).data.toList = [c] from rfl, Lib.count_one]; exact Nat.le_refl _)

/-- the number that Atoi finds, if it finds one -/
def atoF (s : ByteArray) : Option Int := match Lib.atoiAll s.data.toList with
  | .ok v => some v
  | _ => none
theorem atoF_fin : ∀ k : Fin 199, Lib.atoiAll (Lib.itoa ((k.val : Int) - 99)) = .ok ((k.val : Int) - 99) := by decide +kernel
theorem atoF_itoa {n : Int} (h : -99 ≤ n ∧ n ≤ 99) : atoF (itoaB n) = some n := by
  obtain ⟨k, rfl⟩ := small_fin h
  unfold atoF itoaB
  simp only [atoF_fin]

/-! ### legs -/
/-- the leg whose text this is -/
def rdLeg (s : ByteArray) : Option Lg := match candL s.data.toList with
  | some g => if legB g = s ∧ s.size ≠ 0 then some g else none
  | none => none
def rdLegD (s : ByteArray) : Lg × Bool := match rdLeg s with
  | some g => (g, true)
  | none => (noLeg, false)
theorem legB_size0 {g : Lg} (h : (legB g).size ≠ 0) : legOk 6 g = true := by
  unfold legB at h
  split at h
  · assumption
  · exact absurd rfl h
theorem legB_pos {g : Lg} (h : legOk 6 g = true) : (legB g).size ≠ 0 := by
  have e : (legB g).size = (legB g).data.toList.length := rfl
  rw [e, legB_list h, List.length_append, List.length_cons]
  omega
theorem rdLeg_iff {s : ByteArray} {g : Lg} : rdLeg s = some g ↔ legOk 6 g = true ∧ legB g = s := by
  unfold rdLeg
  constructor
  · intro h
    split at h
    · split at h
      · rename_i hc; obtain rfl := Option.some.inj h; exact ⟨legB_size0 (by rw [hc.1]; exact hc.2), hc.1⟩
      · cases h
    · cases h
  · rintro ⟨h, rfl⟩
    rw [candL_text h]
    show (if legB g = legB g ∧ (legB g).size ≠ 0 then some g else none) = some g
    rw [if_pos ⟨rfl, legB_pos h⟩]
theorem rdLeg_none {s : ByteArray} (h : rdLeg s = none) (g : Lg) (hg : legOk 6 g = true) : legB g ≠ s := fun e => by
  rw [rdLeg_iff.2 ⟨hg, e⟩] at h; cases h
theorem rdLegD_some {s : ByteArray} {g : Lg} (h : rdLeg s = some g) : rdLegD s = (g, true) := by unfold rdLegD; rw [h]
theorem rdLegD_none {s : ByteArray} (h : rdLeg s = none) : rdLegD s = (noLeg, false) := by unfold rdLegD; rw [h]
/-- what a reader that has a candidate says -/
theorem rdLeg_cand {s : ByteArray} {g : Lg} (hc : ∀ g', legOk 6 g' = true → legB g' = s → g' = g) : rdLeg s = if legB g = s ∧ s.size ≠ 0 then some g else none := by
  split
  · rename_i h; exact rdLeg_iff.2 ⟨legB_size0 (by rw [h.1]; exact h.2), h.1⟩
  · rename_i h
    cases hr : rdLeg s with
    | none => rfl
    | some g' =>
      obtain ⟨h1, h2⟩ := rdLeg_iff.1 hr
      obtain rfl := hc g' h1 h2
      exact absurd ⟨h2, by rw [← h2]; exact legB_pos h1⟩ h
/-- and one that has none -/
theorem rdLeg_no {s : ByteArray} (hc : ∀ g', legOk 6 g' = true → legB g' ≠ s) : rdLeg s = none := by
  cases hr : rdLeg s with
  | none => rfl
  | some g' =>
    obtain ⟨h1, h2⟩ := rdLeg_iff.1 hr
    exact absurd h2 (hc g' h1)
end Go.Proofs.YtgggbapcpjfljaaGreatDoor
