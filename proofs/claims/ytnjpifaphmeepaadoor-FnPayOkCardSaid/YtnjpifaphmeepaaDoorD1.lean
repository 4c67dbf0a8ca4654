/- Walks: the reader that draws: spec.l20Open, pick, odd. -/
import Derived.Test.YtnjpifaphmeepaaDoorProg
import Derived.Test.YtnjpifaphmeepaaDoorBits
import Derived.Below
namespace Go.Proofs.YtnjpifaphmeepaaDoor
open Go Go.RowKit

theorem bits_xor_nat (a b : Nat) (ha : a < 9223372036854775808) (hb : b < 9223372036854775808) : bits .xor .i64 (a : Int) (b : Int) = ((a ^^^ b : Nat) : Int) := by
  have hx : a ^^^ b < 2 ^ 63 := Nat.xor_lt_two_pow (by omega) (by omega)
  show IntKind.i64.wrap ((BitVec.ofInt 64 (a : Int) ^^^ BitVec.ofInt 64 (b : Int)).toNat : Int) = _
  rw [BitVec.toNat_xor, ofInt_nat (by omega), ofInt_nat (by omega), IntKind.wrap_i64]
  omega

/-- n bytes lie from a on -/
def Bytes (w : World) (a : Option Addr) (n : Nat) : Prop :=
  0 < n → ∃ b off, a = some ⟨b, off, none⟩ ∧ b < w.heap.size ∧ ∀ j, j < n → ∃ x : Nat, x < 256 ∧ w.cell? ⟨b, off + j, none⟩ = some (.int .u8 (x : Int))
theorem Bytes.below {w w' : World} {a : Option Addr} {n : Nat} (h : Bytes w a n) (hb : Below w.heap.size w w') : Bytes w' a n := fun hn => by
  obtain ⟨b, off, e, hlt, hc⟩ := h hn
  refine ⟨b, off, e, Nat.lt_of_lt_of_le hlt hb.size, fun j hj => ?_⟩
  obtain ⟨x, hx, hc⟩ := hc j hj
  exact ⟨x, hx, by rw [hb.cell (p := ⟨b, off + j, none⟩) hlt]; exact hc⟩

/-- a reader lies in block B: its bytes, and how often it was asked -/
structure Rdr (w : World) (B : Nat) (a : Option Addr) (n c p : Nat) : Prop where
  code : w.cell? ⟨B, 0, none⟩ = some (.slice a n c)
  at_ : w.cell? ⟨B, 1, none⟩ = some (.int .i64 (p : Int))
  free : w.frozen? ⟨B, 1, none⟩ = false
  bytes : Bytes w a n
  apart : 0 < n → ∀ b off, a = some ⟨b, off, none⟩ → b ≠ B
  few : n ≤ 2000
theorem Rdr.lt {w : World} {B : Nat} {a : Option Addr} {n c p : Nat} (h : Rdr w B a n c p) : B < w.heap.size := block_lt_of_cell h.code
theorem Rdr.below {w w' : World} {B : Nat} {a : Option Addr} {n c p : Nat} (h : Rdr w B a n c p) (hb : Below w.heap.size w w') : Rdr w' B a n c p :=
  ⟨by rw [hb.cell (p := ⟨B, 0, none⟩) h.lt]; exact h.code, by rw [hb.cell (p := ⟨B, 1, none⟩) h.lt]; exact h.at_, by rw [World.frozen?_of_block (a := ⟨B, 1, none⟩) (hb.block B h.lt)]; exact h.free, h.bytes.below hb, h.apart, h.few⟩
theorem Rdr.ticked {w : World} {B : Nat} {a : Option Addr} {n c p : Nat} (h : Rdr w B a n c p) : Rdr (w.setCell ⟨B, 1, none⟩ (.int .i64 ((p + 1 : Nat) : Int))) B a n c (p + 1) := by
  refine ⟨?_, World.cell?_setCell_same _ _ _ h.at_, ?_, fun hn => ?_, h.apart, h.few⟩
  · rw [World.cell?_setCell_other _ _ _ _ (by simp)]; exact h.code
  · rw [World.frozen?_setCell]; exact h.free
  · obtain ⟨b, off, e, hlt, hc⟩ := h.bytes hn
    refine ⟨b, off, e, by simpa [World.setCell] using hlt, fun j hj => ?_⟩
    obtain ⟨x, hx, hc⟩ := hc j hj
    have := h.apart hn b off e
    exact ⟨x, hx, by rw [World.cell?_setCell_other _ _ _ _ (by simp; first | done | (intro h1; exact absurd h1.symm this))]; exact hc⟩

theorem Rdr.drewN {w : World} {B : Nat} {a : Option Addr} {n c p : Nat} (h : Rdr w B a n c p) (q : Nat) : Rdr (w.drewN q) B a n c p := h.below (below_drewN (Below.refl _ _) q)

theorem tmod_nat (a b : Nat) : Int.tmod (a : Int) (b : Int) = ((a % b : Nat) : Int) := by
  rw [Int.tmod_eq_emod_of_nonneg (by omega)]; simp
theorem tdiv_nat (a b : Nat) : Int.tdiv (a : Int) (b : Int) = ((a / b : Nat) : Int) := by
  rw [Int.tdiv_eq_ediv_of_nonneg (by omega)]; simp

set_option maxRecDepth 100000 in
theorem pick_any (B : Nat) (a : Option Addr) (n c p : Nat) (m : Int) (w : World) (h : Rdr w B a n c p) (hp : p ≤ 1000000) (hm : m ≤ 1000000) :
    Calls Tryd.prog 79 #[.pointer (some ⟨B, 0, none⟩), .int .i64 m] w fun e w' => ∃ k : Nat, e = .returned (.int .i64 (k : Int)) ∧ (1 ≤ m → (k : Int) < m) ∧ (m < 1 → k = 0) ∧ ∃ q, w' = (w.setCell ⟨B, 1, none⟩ (.int .i64 ((p + 1 : Nat) : Int))).drewN q := by
  have h1 := h.code
  have h2 := h.at_
  have h3 := h.free
  by_cases hm1 : m < 1
  · go_enter Tryd.func79, Tryd.ntmps79
    go_wp2
    go_ret
    exact ⟨0, rfl, by omega, by omega, 0, rfl⟩
  by_cases hn : n = 0
  · subst hn
    go_enter Tryd.func79, Tryd.ntmps79
    go_wp2
    go_ret
    exact ⟨0, rfl, by omega, by omega, 0, rfl⟩
  have ht := h.ticked
  obtain ⟨b, off, rfl, hlt, hc⟩ := h.bytes (by omega)
  have hne := h.apart (by omega) b off rfl
  have hne2 : B ≠ b := fun e => hne e.symm
  obtain ⟨M, rfl⟩ : ∃ M : Nat, m = M := ⟨m.toNat, by omega⟩
  have hMpos : 0 < M := by omega
  have hn0 : ¬ ((n : Int) = 0) := by omega
  have few := h.few
  by_cases hpn : p < n
  · obtain ⟨x, hx, c1⟩ := hc p hpn
    have hmod := tmod_nat x M
    have hmlt : x % M < M := Nat.mod_lt _ hMpos
    clear hc ht h
    go_enter Tryd.func79, Tryd.ntmps79
    go_wp2
    go_ret
    exact ⟨x % M, rfl, by omega, by omega, 0, rfl⟩
  · have hq1 := hc (p % n) (Nat.mod_lt _ (by omega))
    have hq2 := hc ((p * 7 + 3) % n) (Nat.mod_lt _ (by omega))
    obtain ⟨x, hx, c1⟩ := hq1
    obtain ⟨y, hy, c2⟩ := hq2
    have t1 := tmod_nat p n
    have t2 := tmod_nat (p * 7 + 3) n
    have t3 := tdiv_nat p n
    rw [show ((p * 7 + 3 : Nat) : Int) = (p : Int) * 7 + 3 from by omega] at t2
    have u1 : p % n < n := Nat.mod_lt _ (by omega)
    have u2 : (p * 7 + 3) % n < n := Nat.mod_lt _ (by omega)
    have u3 : p / n ≤ p := Nat.div_le_self _ _
    clear hc
    generalize p % n = r1 at *
    generalize (p * 7 + 3) % n = r2 at *
    generalize p / n = r3 at *
    go_enter Tryd.func79, Tryd.ntmps79
    go_wp2_with fail
    obtain ⟨W, hW⟩ : ∃ W, W = w.setCell ⟨B, 1, none⟩ (.int .i64 ((p : Int) + 1)) := ⟨_, rfl⟩
    have ht2 : Rdr W B (some ⟨b, off, none⟩) n c (p + 1) := by rw [hW]; exact ht
    have g1 := ht2.code
    have g3 : W.cell? ⟨b, off + r1, none⟩ = some (.int .u8 x) := by rw [hW, World.cell?_setCell_other _ _ _ _ (by simp)]; exact c1
    have g4 : W.cell? ⟨b, off + r2, none⟩ = some (.int .u8 y) := by rw [hW, World.cell?_setCell_other _ _ _ _ (by simp)]; exact c2
    have hWe : w.setCell ⟨B, 1, none⟩ (.int .i64 ((p + 1 : Nat) : Int)) = W := hW.symm
    have HWe := Lib.hid hWe
    rw [← hW]
    clear hW hWe c1 c2 h1 h2 h3 h ht ht2
    have hN : (n : Int) ≠ 0 := by omega
    have v1 : (r1 : Int) < n := by omega
    have v2 : (r2 : Int) < n := by omega
    have w1 : IntKind.i64.wrap ((x : Int) * 131) = x * 131 := IntWalk.i64_in _ (by omega)
    have w2 : IntKind.i64.wrap ((p : Int) * 7) = p * 7 := IntWalk.i64_in _ (by omega)
    have w3 : IntKind.i64.wrap ((p : Int) * 7 + 3) = p * 7 + 3 := IntWalk.i64_in _ (by omega)
    have w4 : IntKind.i64.wrap ((y : Int) * 1117) = y * 1117 := IntWalk.i64_in _ (by omega)
    have w5 : IntKind.i64.wrap ((x : Int) * 131 + y * 1117) = x * 131 + y * 1117 := IntWalk.i64_in _ (by omega)
    have w6 : IntKind.i64.wrap ((p : Int) * 29) = p * 29 := IntWalk.i64_in _ (by omega)
    have w7 : IntKind.i64.wrap ((x : Int) * 131 + y * 1117 + p * 29) = x * 131 + y * 1117 + p * 29 := IntWalk.i64_in _ (by omega)
    have w8 : IntKind.i64.wrap ((r3 : Int) * 53) = r3 * 53 := IntWalk.i64_in _ (by omega)
    have w9 : IntKind.i64.wrap ((x : Int) * 131 + y * 1117 + p * 29 + r3 * 53) = x * 131 + y * 1117 + p * 29 + r3 * 53 := IntWalk.i64_in _ (by omega)
    go_quiet (fail)
    obtain ⟨X, hX⟩ : ∃ X : Nat, (x : Int) * 131 + y * 1117 + p * 29 + r3 * 53 = (X : Int) := ⟨x * 131 + y * 1117 + p * 29 + r3 * 53, by omega⟩
    have hXb : X ≤ 1000000000 := by omega
    rw [hX]
    clear w1 w2 w3 w4 w5 w6 w7 w8 w9 t1 t2 t3 u1 u2 u3 v1 v2 hX g1 g3 g4
    have d1 : Int.tdiv (X : Int) 64 = ((X / 64 : Nat) : Int) := tdiv_nat X 64
    have d2 : X / 64 ≤ X := Nat.div_le_self _ _
    generalize X / 64 = Z at d1 d2
    have e1 := bits_xor_nat X Z (by omega) (by omega)
    generalize X ^^^ Z = Y at e1
    have f1 := tmod_nat Y M
    have f2 : Y % M < M := Nat.mod_lt _ hMpos
    go_wp2
    go_ret
    exact ⟨Y % M, rfl, by omega, by omega, _, by rw [HWe.out]⟩

theorem odd_any (B : Nat) (a : Option Addr) (n c p : Nat) (m : Nat) (w : World) (h : Rdr w B a n c p) (hp : p ≤ 1000000) (hm1 : 0 < m) (hm : m ≤ 1000000) :
    Calls Tryd.prog 82 #[.pointer (some ⟨B, 0, none⟩), .int .i64 m] w fun e w' => ∃ b, e = .returned (.bool b) ∧ ∃ q, w' = (w.setCell ⟨B, 1, none⟩ (.int .i64 ((p + 1 : Nat) : Int))).drewN q := by
  go_enter Tryd.func82, Tryd.ntmps82
  go_wp2_with (go_at_call 79; refine (pick_any _ _ _ _ _ _ _ h hp (by omega)).mono ?_; rintro e w' ⟨k, rfl, hk1, hk2, q, rfl⟩)
  go_ret
  exact ⟨_, rfl, q, rfl⟩

theorem Rdr.made {w : World} {a : Option Addr} {n c : Nat} (hb : Bytes w a n) (hn : n ≤ 2000) : Rdr (w.alloc (.cells #[.slice a n c, .int .i64 0] 68)) w.heap.size a n c 0 :=
  ⟨by simp, by simp, by simp, hb.below ((Below.refl _ _).alloc (Nat.le_refl _) _), fun h0 b off e => by
    obtain ⟨b', off', e', hlt, _⟩ := hb h0
    rw [e] at e'; cases e'; omega, hn⟩

/-- a slice of bytes as an argument gives it -/
theorem l20Open_any (a : Option Addr) (n c : Nat) (w : World) (hc : n ≤ c) (hn : n ≤ 1048576) (hb : Bytes w a n) :
    Calls Tryd.prog 65 #[.slice a n c] w fun e w' => ∃ n' c', e = .returned (.pointer (some ⟨w.heap.size, 0, none⟩)) ∧ Rdr w' w.heap.size a n' c' 0 ∧ Below w.heap.size w w' := by
  by_cases h : 2000 < n
  · obtain ⟨b, off, rfl, hlt, hcell⟩ := hb (by omega)
    go_enter Tryd.func65, Tryd.ntmps65
    go_wp2
    go_ret
    exact ⟨2000, c, rfl, Rdr.made (fun _ => ⟨b, off, rfl, hlt, fun j hj => hcell j (by omega)⟩) (by omega), (by repeat (first | with_reducible assumption | exact Below.refl _ _ | refine below_drewN ?_ _ | refine Below.drew ?_ | refine Below.alloc ?_ (by first | omega | (simp; done) | (simp; omega)) _ | refine Below.setCell ?_ (by first | omega | (simp; done) | (simp; omega)) _))⟩
  · go_enter Tryd.func65, Tryd.ntmps65
    go_wp2
    go_ret
    exact ⟨n, c, rfl, Rdr.made hb (by omega), (by repeat (first | with_reducible assumption | exact Below.refl _ _ | refine below_drewN ?_ _ | refine Below.drew ?_ | refine Below.alloc ?_ (by first | omega | (simp; done) | (simp; omega)) _ | refine Below.setCell ?_ (by first | omega | (simp; done) | (simp; omega)) _))⟩
end Go.Proofs.YtnjpifaphmeepaaDoor
