/- Walks: impl.setIndices, impl.PitClose. -/
import Derived.Test.YtnjpifaphmeepaaDoorW3
import Derived.Test.YtnjpifaphmeepaaDoorW4
namespace Go.Proofs.YtnjpifaphmeepaaDoor
open Go Go.RowKit

/-- the bits of m below k, ascending -/
def bitsBelow (m k : Nat) : List Int := ((List.range k).filter fun i => m.testBit i).map fun i : Nat => (i : Int)
theorem bitsBelow_yes {m k : Nat} (h : m.testBit k = true) : bitsBelow m (k + 1) = bitsBelow m k ++ [(k : Int)] := by
  simp [bitsBelow, List.range_succ, h]
theorem bitsBelow_no {m k : Nat} (h : m.testBit k = false) : bitsBelow m (k + 1) = bitsBelow m k := by
  simp [bitsBelow, List.range_succ, h]
theorem bitsBelow_len (m k : Nat) : (bitsBelow m k).length ≤ k := by
  have := List.length_filter_le (fun i => m.testBit i) (List.range k)
  simpa [bitsBelow] using this

theorem setIndices_any (m : Nat) (w : World) (hm : m < 9223372036854775808) :
    Calls Tryd.prog 73 #[.int .i64 m] w fun e w' => ∃ v, e = .returned v ∧ w'.ownsRow w.heap.size 3 1 v (bitsBelow m 63).length ((bitsBelow m 63).map (Value.int .i64)) ∧ Below w.heap.size w w' := by
  go_enter Tryd.func73, Tryd.ntmps73
  go_wp2
  go_loopw [3, 5] (fun v i wr => ∃ k : Nat, k ≤ 63 ∧ i = .int .i64 k ∧ wr.ownsRow w.heap.size 3 1 v (bitsBelow m k).length ((bitsBelow m k).map (Value.int .i64)) ∧ Below w.heap.size w wr) (fun _ i _ => 63 - (intOf i).toNat)
  case atStart => exact ⟨0, by omega, rfl, World.ownsRow_nil _ _ _ _, Below.refl _ _⟩
  case round =>
    obtain ⟨k, hk, rfl, ho, hb⟩ := hrel
    by_cases hlt : k < 63
    · have hz := hb.size
      have hbit := shr_and m k hm
      have hlen := bitsBelow_len m k
      cases hq : m.testBit k
      · rw [bitZ_false hq] at hbit
        go_wp2
        go_roundw
        case rel => exact ⟨k + 1, by omega, by go_num, by rw [bitsBelow_no hq]; exact ho, hb⟩
        case measure => simp [intOf] <;> omega
      · rw [bitZ_true hq] at hbit
        go_wp2_with (at_builtin; refine appInt _ _ rfl rfl w.heap.size _ _ k _ _ rfl (ho.alloc _) rfl (by simp) (by omega) (by simp; omega) ?_; intro v' w1 ho1 hb1)
        go_roundw
        case rel => exact ⟨k + 1, by omega, by go_num, by rw [bitsBelow_yes hq]; exact ho1, (hb.alloc hz _).trans hb1⟩
        case measure => simp [intOf] <;> omega
    · obtain rfl : k = 63 := by omega
      go_wp2
      go_ret
      exact ⟨_, rfl, ho, hb⟩

/-! ### closing a set -/
def orNeeds (m : Nat) : List Int → Nat
  | [] => m
  | x :: l => orNeeds (m ||| 2 ^ x.toNat) l
def closeStep (bs : List Blk) (i m : Nat) : Nat := if m.testBit i then orNeeds m (nth bs i).needs else m
def closeDown (bs : List Blk) : Nat → Nat → Nat
  | 0, m => m
  | i + 1, m => closeDown bs i (closeStep bs i m)
def closeOf (bs : List Blk) (m : Nat) : Nat := closeDown bs bs.length m
def pitCloseF (bs : List Blk) (s : Int) : Int := if setOk bs s then closeOf bs s.toNat else -1

theorem areIdx_nth {xs : List Int} {m : Int} (h : areIdx xs m = true) {k : Nat} (hk : k < xs.length) : 0 ≤ nth xs k ∧ nth xs k < m := by
  have := List.all_eq_true.1 h _ (nth_mem hk)
  simpa [isIdx] using this
theorem pitOk_need {bs : List Blk} (h : pitOk bs = true) {i : Nat} (hi : i < bs.length) {j : Nat} (hj : j < (nth bs i).needs.length) :
    ∃ y : Nat, nth (nth bs i).needs j = (y : Int) ∧ y < i := by
  have h1 := pitOk_blk h hi
  simp only [blkOk, Bool.and_eq_true] at h1
  obtain ⟨h2, h3⟩ := areIdx_nth h1.1.2 hj
  exact ⟨(nth (nth bs i).needs j).toNat, by omega, by omega⟩
theorem or_lt {m k : Nat} (hm : m < 256) (hk : k < 8) : m ||| 2 ^ k < 256 := by
  have h2 : 2 ^ k < 2 ^ 8 := Nat.pow_lt_pow_right (by omega) hk
  exact Nat.or_lt_two_pow (n := 8) hm h2

theorem pitClose_any (a : Option Addr) (c : Nat) (bs : List Blk) (s : Int) (w : World) (hl : bs.length ≤ 1048576) (hs : Pit w a bs) :
    Calls Tryd.prog 22 #[.slice a bs.length c, .int .i64 s] w fun e w' => e = .returned (.int .i64 (pitCloseF bs s)) ∧ Below w.heap.size w w' := by
  cases hv : setOk bs s
  · go_enter Tryd.func22, Tryd.ntmps22
    go_wp2_with (go_at_call 71; refine (pitSetFits_any _ _ _ _ _ (by omega) hs).mono ?_; rintro e w' ⟨rfl, hb0⟩)
    go_ret
    exact ⟨by simp [pitCloseF, hv], hb0⟩
  obtain ⟨hp, m, rfl, hm⟩ := setOk_of hv
  have hl8 := pitOk_len hp
  have hm' : m < 256 := Nat.lt_of_lt_of_le hm (pow_le_of (k := 8) hl8)
  have HF : Hid (pitCloseF bs m = closeOf bs m) := by simp [Hid, pitCloseF, hv]
  clear hm
  go_enter Tryd.func22, Tryd.ntmps22
  go_wp2_with (go_at_call 71; refine (pitSetFits_any _ _ _ _ _ (by omega) hs).mono ?_; rintro e w1 ⟨rfl, hb0⟩)
  go_loopw [1, 5] (fun s i wr => ∃ (j m1 : Nat), j ≤ bs.length ∧ i = .int .i64 ((j : Int) - 1) ∧ s = .int .i64 m1 ∧ m1 < 256 ∧ Hid (closeOf bs m = closeDown bs j m1) ∧ wr = w1) (fun _ i _ => (intOf i + 1).toNat)
  case atStart => exact ⟨bs.length, m, by omega, rfl, rfl, hm', rfl, rfl⟩
  case round =>
    obtain ⟨j, m1, hj, rfl, rfl, hm1, HR, rfl⟩ := hrel
    cases j with
    | zero =>
      go_wp2
      go_ret
      exact ⟨by rw [HF.out, HR.out]; rfl, hb0⟩
    | succ i =>
      rw [show (((i + 1 : Nat) : Int) - 1) = (i : Int) from by omega]
      obtain ⟨b, off, A, C, rfl, hbw, h1, h2, h3, h4, h5, h6⟩ := Pit.at (hs.below hb0) (k := i) (by omega)
      have hneed := fun j => pitOk_need hp (i := i) (j := j) (by omega)
      have HN := Lib.hid hneed
      clear hs hneed
      have hbit := shr_and m1 i (by omega)
      cases hq : m1.testBit i
      · rw [bitZ_false hq] at hbit
        go_wp2
        go_roundw
        case rel => exact ⟨i, m1, by omega, rfl, rfl, hm1, by show _ = _; rw [HR.out]; simp [closeDown, closeStep, hq], by trivial⟩
        case measure => simp [intOf] <;> omega
      · rw [bitZ_true hq] at hbit
        go_wp2
        clear h1 h2 hbit
        go_loopw [1, 30] (fun s ii wi => ∃ (j m2 : Nat), j ≤ (nth bs i).needs.length ∧ ii = .int .i64 j ∧ s = .int .i64 m2 ∧ m2 < 256 ∧ Hid (orNeeds m1 (nth bs i).needs = orNeeds m2 ((nth bs i).needs.drop j)) ∧ wi = wr) (fun _ ii _ => (nth bs i).needs.length - (intOf ii).toNat)
        case atStart => exact ⟨0, m1, by omega, rfl, rfl, hm1, rfl, rfl⟩
        case round =>
          obtain ⟨j, m2, hj2, rfl, rfl, hm2, HO, rfl⟩ := hrel
          by_cases hlt : j < (nth bs i).needs.length
          · obtain ⟨b', off', rfl, hb', hc⟩ := Ints.at h6 hlt
            obtain ⟨y, hy, hyi⟩ := HN.out j hlt
            have c1 := hc j hlt
            rw [hy] at c1
            have HY := Lib.hid hy
            have hd := drop_nth hlt
            have HD := Lib.hid hd
            have hsh := wrap_pow (n := y) (by omega)
            have hor := bits_or_nat m2 (2 ^ y) (by omega) (by have := pow_le_of (n := y) (k := 8) (by omega); omega)
            have hor2 := or_lt (m := m2) (k := y) hm2 (by omega)
            simp only [Int.natCast_pow, Int.cast_ofNat_Int] at hor
            clear hd hy hc
            go_wp2
            go_roundw
            case rel => exact ⟨j + 1, m2 ||| 2 ^ y, by omega, by go_num, rfl, hor2, by show _ = _; rw [HO.out, HD.out]; simp [orNeeds, HY.out], by trivial⟩
            case measure => simp [intOf] <;> omega
          · go_wp2
            go_roundw
            case rel => exact ⟨i, m2, by omega, by go_num, rfl, hm2, by show _ = _; rw [HR.out]; simp [closeDown, closeStep, hq]; rw [HO.out, List.drop_eq_nil_of_le (by omega)]; rfl, by trivial⟩
            case measure => simp [intOf] <;> omega
end Go.Proofs.YtnjpifaphmeepaaDoor
