/- Plain law of the readings: what stands between separators, numbers read back, legs read back. -/
import Derived.Test.YtgggbapcpjfljaaGreatDoorTX5
namespace Go.Proofs.YtgggbapcpjfljaaGreatDoor
open Go Go.RowKit

/-- what stands between the bytes sep -/
def cutL (sep : UInt8) : List UInt8 → List (List UInt8)
  | [] => [[]]
  | c :: r => if c = sep then [] :: cutL sep r else match cutL sep r with
    | [] => [[c]]
    | p :: ps => (c :: p) :: ps
theorem cutL_none {sep : UInt8} : ∀ {p : List UInt8}, sep ∉ p → cutL sep p = [p]
  | [], _ => rfl
  | c :: r, h => by
    have h1 : ¬ c = sep := fun e => h (by simp [e])
    have h2 : sep ∉ r := fun e => h (by simp [e])
    rw [cutL, if_neg h1, cutL_none h2]
theorem cutL_app {sep : UInt8} (r : List UInt8) : ∀ {p : List UInt8}, sep ∉ p → cutL sep (p ++ sep :: r) = p :: cutL sep r
  | [], _ => by simp [cutL]
  | c :: q, h => by
    have h1 : ¬ c = sep := fun e => h (by simp [e])
    have h2 : sep ∉ q := fun e => h (by simp [e])
    rw [List.cons_append, cutL, if_neg h1, cutL_app r h2]

/-- the reference's number of a text of digits -/
def digF (n : Int) : List UInt8 → Int
  | [] => n
  | c :: r => if c.toNat < 48 ∨ 57 < c.toNat then -1 else digF (10 * n + ((c.toNat : Int) - 48)) r
def digL (l : List UInt8) : Int := if l.length < 1 ∨ 4 < l.length ∨ (1 < l.length ∧ l.head? = some 48) then -1 else digF 0 l
def rdL (l : List UInt8) : Int := if 1 < l.length ∧ l.head? = some 45 ∧ 0 < digL l.tail then -digL l.tail else if digL l < 0 then 9999 else digL l

theorem rdL_fin : ∀ k : Fin 199, rdL (Lib.itoa ((k.val : Int) - 99)) = (k.val : Int) - 99 := by decide +kernel
theorem itoa_fin : ∀ k : Fin 199, ∀ c ∈ Lib.itoa ((k.val : Int) - 99), c = 45 ∨ (48 ≤ c.toNat ∧ c.toNat ≤ 57) := by decide +kernel
theorem small_fin {n : Int} (h : -99 ≤ n ∧ n ≤ 99) : ∃ k : Fin 199, n = (k.val : Int) - 99 := ⟨⟨(n + 99).toNat, by omega⟩, by show n = (((n + 99).toNat : Nat) : Int) - 99; omega⟩
theorem rdL_itoa {n : Int} (h : -99 ≤ n ∧ n ≤ 99) : rdL (Lib.itoa n) = n := by
  obtain ⟨k, rfl⟩ := small_fin h
  exact rdL_fin k
theorem itoa_no {n : Int} (h : -99 ≤ n ∧ n ≤ 99) {c : UInt8} (h1 : c ≠ 45) (h2 : c.toNat < 48 ∨ 57 < c.toNat) : c ∉ Lib.itoa n := by
  obtain ⟨k, rfl⟩ := small_fin h
  intro hc
  rcases itoa_fin k c hc with h | h
  · exact h1 h
  · omega

/-- the leg that a text seems to be, as the reference reads it -/
def candL (s : List UInt8) : Option Lg :=
  match cutL 58 s with
  | [a, b] => match cutL 62 a, cutL 44 b with
    | [f, t], [e, n, u] => some ⟨rdL f, rdL t, rdL e, rdL n, rdL u⟩
    | _, _ => none
  | _ => none

theorem legB_list {g : Lg} (h : legOk 6 g = true) : (legB g).data.toList = (Lib.itoa g.frm ++ 62 :: Lib.itoa g.to) ++ 58 :: (Lib.itoa g.east ++ 44 :: (Lib.itoa g.north ++ 44 :: Lib.itoa g.up)) := by
  unfold legB wayB itoaB
  rw [if_pos h]
  simp

theorem candL_text {g : Lg} (h : legOk 6 g = true) : candL (legB g).data.toList = some g := by
  obtain ⟨hr1, hr2, hr3, hr4, hr5⟩ := legOk_range (by omega) h
  have g1 : -99 ≤ g.frm ∧ g.frm ≤ 99 := by omega
  have g2 : -99 ≤ g.to ∧ g.to ≤ 99 := by omega
  have n58 : ∀ {n : Int}, -99 ≤ n ∧ n ≤ 99 → (58 : UInt8) ∉ Lib.itoa n := fun h => itoa_no h (by decide) (by decide)
  have n62 : ∀ {n : Int}, -99 ≤ n ∧ n ≤ 99 → (62 : UInt8) ∉ Lib.itoa n := fun h => itoa_no h (by decide) (by decide)
  have n44 : ∀ {n : Int}, -99 ≤ n ∧ n ≤ 99 → (44 : UInt8) ∉ Lib.itoa n := fun h => itoa_no h (by decide) (by decide)
  have e1 : cutL 58 (legB g).data.toList = [Lib.itoa g.frm ++ 62 :: Lib.itoa g.to, Lib.itoa g.east ++ 44 :: (Lib.itoa g.north ++ 44 :: Lib.itoa g.up)] := by
    rw [legB_list h, cutL_app _ (by simp [n58 g1, n58 g2]), cutL_none (by simp [n58 hr3, n58 hr4, n58 hr5])]
  have e2 : cutL 62 (Lib.itoa g.frm ++ 62 :: Lib.itoa g.to) = [Lib.itoa g.frm, Lib.itoa g.to] := by rw [cutL_app _ (n62 g1), cutL_none (n62 g2)]
  have e3 : cutL 44 (Lib.itoa g.east ++ 44 :: (Lib.itoa g.north ++ 44 :: Lib.itoa g.up)) = [Lib.itoa g.east, Lib.itoa g.north, Lib.itoa g.up] := by
    rw [cutL_app _ (n44 hr3), cutL_app _ (n44 hr4), cutL_none (n44 hr5)]
  unfold candL
  rw [e1]
  simp only [e2, e3]
  rw [rdL_itoa g1, rdL_itoa g2, rdL_itoa hr3, rdL_itoa hr4, rdL_itoa hr5]
end Go.Proofs.YtgggbapcpjfljaaGreatDoor
