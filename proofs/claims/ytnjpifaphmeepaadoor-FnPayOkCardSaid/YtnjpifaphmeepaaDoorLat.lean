/- Sets that may be taken: what is in both, what is in one of both; the best sets. Plain mathematics. -/
import Derived.Test.YtnjpifaphmeepaaDoorV2
import Derived.Test.YtnjpifaphmeepaaDoorPaySt
namespace Go.Proofs.YtnjpifaphmeepaaDoor
open Go Go.RowKit

theorem closed_and {bs : List Blk} {a b : Nat} (ha : ClosedS bs a.testBit) (hb : ClosedS bs b.testBit) : ClosedS bs (a &&& b).testBit := fun i j hi hj h1 h2 => by
  rw [Nat.testBit_and, Bool.and_eq_true] at h1 ⊢
  exact ⟨ha i j hi hj h1.1 h2, hb i j hi hj h1.2 h2⟩
theorem closed_or {bs : List Blk} {a b : Nat} (ha : ClosedS bs a.testBit) (hb : ClosedS bs b.testBit) : ClosedS bs (a ||| b).testBit := fun i j hi hj h1 h2 => by
  rw [Nat.testBit_or, Bool.or_eq_true] at h1 ⊢
  rcases h1 with h1 | h1
  · exact .inl (ha i j hi hj h1 h2)
  · exact .inr (hb i j hi hj h1 h2)
theorem worth_modular (bs : List Blk) (a b : Nat) : worthOf bs (a &&& b) + worthOf bs (a ||| b) = worthOf bs a + worthOf bs b := by
  simp only [worth_sum]
  unfold worthS
  rw [← sumN_add, ← sumN_add]
  refine sumN_congr fun i _ => ?_
  rw [Nat.testBit_and, Nat.testBit_or]
  cases a.testBit i <;> cases b.testBit i <;> simp
theorem may_and {bs : List Blk} (hp : pitOk bs = true) {a b : Nat} (ha : mayOf bs a = true) (hb : mayOf bs b = true) : mayOf bs (a &&& b) = true := (may_closed hp).2 (closed_and ((may_closed hp).1 ha) ((may_closed hp).1 hb))
theorem may_or {bs : List Blk} (hp : pitOk bs = true) {a b : Nat} (ha : mayOf bs a = true) (hb : mayOf bs b = true) : mayOf bs (a ||| b) = true := (may_closed hp).2 (closed_or ((may_closed hp).1 ha) ((may_closed hp).1 hb))
/-- a best set has all blocks of the least best one -/
theorem best_inter {bs : List Blk} (hp : pitOk bs = true) {m o : Nat} (hm : IsBest bs m) (ho : o < 2 ^ bs.length) (hmay : mayOf bs o = true) (hw : worthOf bs o = worthOf bs m) : o &&& m = m := by
  have h1 := worth_modular bs o m
  have l1 : o &&& m < 2 ^ bs.length := Nat.and_lt_two_pow _ hm.lt
  have l2 : o ||| m < 2 ^ bs.length := Nat.or_lt_two_pow ho hm.lt
  have h2 := hm.most _ l1 (may_and hp hmay hm.may)
  have h3 := hm.most _ l2 (may_or hp hmay hm.may)
  have h4 := hm.least _ l1 (may_and hp hmay hm.may) (by omega)
  have h5 : o &&& m ≤ m := Nat.and_le_right
  omega
theorem worthF_nat {bs : List Blk} (hp : pitOk bs = true) {m : Nat} (hm : m < 2 ^ bs.length) : pitWorthF bs m = worthOf bs m := by simp [pitWorthF, setOk_nat hp hm]
theorem worth_range {bs : List Blk} (hp : pitOk bs = true) (s : Int) : -160 ≤ pitWorthF bs s ∧ pitWorthF bs s ≤ 160 := by
  unfold pitWorthF
  cases hv : setOk bs s
  · simp
  · rw [if_pos rfl, worth_sum]
    unfold worthS
    have hl := pitOk_len hp
    have h1 : sumN (fun i => if (s.toNat).testBit i then (nth bs i).worth else 0) bs.length ≤ 20 * bs.length := sumN_le_const fun i hi => by have := pitOk_worth hp hi; split <;> omega
    have h2 : sumN (fun i => - (if (s.toNat).testBit i then (nth bs i).worth else 0)) bs.length ≤ 20 * bs.length := sumN_le_const fun i hi => by have := pitOk_worth hp hi; split <;> omega
    rw [sumN_neg] at h2
    omega
theorem posSum_range {bs : List Blk} (hp : pitOk bs = true) : 0 ≤ posSum bs ∧ posSum bs ≤ 160 := by
  have hl := pitOk_len hp
  refine ⟨sumN_nonneg fun i _ => pos_nonneg' _, ?_⟩
  have h1 : posSum bs ≤ 20 * bs.length := sumN_le_const fun i hi => (pos_range (pitOk_worth hp hi).2).2
  omega
theorem mostF_best {bs : List Blk} (hp : pitOk bs = true) {m : Nat} (hm : IsBest bs m) : mostF bs = worthOf bs m := by
  unfold mostF; rw [if_pos hp, best_of hp hm, worthF_nat hp hm.lt]
theorem zero_may {bs : List Blk} (hp : pitOk bs = true) : mayF bs 0 = true := by
  have h : (0 : Nat) < 2 ^ bs.length := Nat.pow_pos (by omega)
  have := mayF_nat hp h
  rw [show ((0 : Nat) : Int) = 0 from rfl] at this
  rw [this]; exact mayFrom_zero bs 0
end Go.Proofs.YtnjpifaphmeepaaDoor
