/- The law FnPitOrder, walked. -/
import Derived.Test.YtnjpifaphmeepaaDoorLat
import Derived.Test.YtnjpifaphmeepaaDoorSame
import Derived.Test.YtnjpifaphmeepaaDoorW11
namespace Go.Proofs.YtnjpifaphmeepaaDoor
open Go Go.RowKit

theorem bits_at {m : Nat} : ∀ {n k : Nat}, k < (bitsBelow m n).length → ∃ i : Nat, nth (bitsBelow m n) k = (i : Int) ∧ i < n ∧ m.testBit i = true ∧ (bitsBelow m n).take k = bitsBelow m i
  | 0, k, h => by simp [bitsBelow] at h
  | n + 1, k, h => by
    cases hb : m.testBit n
    · rw [bitsBelow_no hb] at h ⊢
      obtain ⟨i, h1, h2, h3, h4⟩ := bits_at h
      exact ⟨i, h1, by omega, h3, h4⟩
    · rw [bitsBelow_yes hb] at h ⊢
      by_cases hk : k < (bitsBelow m n).length
      · obtain ⟨i, h1, h2, h3, h4⟩ := bits_at hk
        exact ⟨i, by rw [nth_append_left hk]; exact h1, by omega, h3, by rw [List.take_append_of_le_length (by omega)]; exact h4⟩
      · have e : k = (bitsBelow m n).length := by simp at h; omega
        subst e
        exact ⟨n, nth_append_len _ _ [], by omega, hb, by simp⟩
def sumPow (l : List Int) : Nat := (l.map fun x => 2 ^ x.toNat).sum
theorem sumPow_snoc (l : List Int) (i : Nat) : sumPow (l ++ [(i : Int)]) = sumPow l + 2 ^ i := by simp [sumPow]
theorem sumPow_bits (m : Nat) : ∀ n, sumPow (bitsBelow m n) = m % 2 ^ n
  | 0 => by simp [sumPow, bitsBelow, Nat.mod_one]
  | n + 1 => by
    cases hb : m.testBit n
    · rw [bitsBelow_no hb, sumPow_bits m n, mod_step, hb]; simp
    · rw [bitsBelow_yes hb, sumPow_snoc, sumPow_bits m n, mod_step, hb]; simp
theorem Ints.take {w : World} {a : Option Addr} {xs : List Int} (h : Ints w a xs) (n : Nat) : Ints w a (xs.take n) := by
  rcases h with e | ⟨b, off, e, hb, h⟩
  · exact .inl (by rw [e]; simp)
  · refine .inr ⟨b, off, e, hb, fun k hk => ?_⟩
    have hk2 := hk
    rw [List.length_take] at hk2
    rw [nth_take (by omega)]
    exact h k (by omega)

set_option maxRecDepth 100000 in
set_option maxHeartbeats 1000000 in
theorem lawPitOrder (a : Option Addr) (n c : Nat) (w : World) (hc : n ≤ c) (hn : n ≤ 9223372036854775807) (hb : n ≤ 1048576 → Bytes w a n) (hpw : Pow w) :
    Calls Tryd.prog 6 #[.slice a n c] w fun e w' => e = .returned (.bool true) ∧ Below w.heap.size w w' := by
  by_cases hbig : 1048576 < n
  · go_enter Tryd.func6, Tryd.ntmps6
    go_wp2_with fail
    go_ret
    exact ⟨rfl, (by repeat (first | with_reducible assumption | exact Below.refl _ _ | refine below_drewN ?_ _ | refine Below.drew ?_ | refine Below.alloc ?_ (by first | omega | (simp; done) | (simp; omega)) _ | refine Below.setCell ?_ (by first | omega | (simp; done) | (simp; omega)) _))⟩
  replace hb := hb (by omega)
  go_enter Tryd.func6, Tryd.ntmps6
  go_wp2_with fail
  refine (drawPitOrder_any a n c w hc (by omega) hb).mono ?_
  rintro e w1 ⟨bs, g, C, s, rfl, h9, hC, hs1, hs2, hp, hbt⟩
  clear hb
  have hO8 : (orderF bs s).length ≤ 9 := by
    unfold orderF; split
    · have := bitsBelow_len s.toNat bs.length; omega
    · simp
  go_wp2_with fail
  refine (pitOrder_any _ _ bs s _ (by omega) hp).mono ?_
  rintro e w2 ⟨aO, CO, rfl, hCO, hO, bN⟩
  replace hp := hp.below bN
  replace hbt := hbt.trans (bN.mono hbt.size)
  clear bN
  go_wp2_with fail
  refine (sOrder_any _ _ bs s _ (by omega) hp).mono ?_
  rintro e w2 ⟨aS, CS, rfl, hCS, hS, bN⟩
  replace hp := hp.below bN
  replace hO := hO.below bN
  replace hbt := hbt.trans (bN.mono hbt.size)
  clear bN
  have hd : decide (orderF bs s = orderF bs s) = true := by simp
  go_wp2_with fail
  refine (toB (sameInts_any _ _ _ _ _ _ _ (by omega) (by omega) hO hS)).mono ?_
  rintro e w2 ⟨rfl, bN⟩
  replace hp := hp.below bN
  replace hO := hO.below bN
  replace hbt := hbt.trans (bN.mono hbt.size)
  clear bN hS hCS
  cases hv : mayF bs s
  · have hlen : (orderF bs s).length = 0 := by simp [orderF, hv]
    generalize orderF bs s = F at *
    go_wp2_with fail
    refine (toB (sMay_any _ _ bs s _ (by omega) hp)).mono ?_
    rintro e w2 ⟨rfl, bN⟩
    replace hp := hp.below bN
    replace hbt := hbt.trans (bN.mono hbt.size)
    clear bN
    go_wp2_with fail
    refine (alive_any _ (hpw.below hbt)).mono ?_
    rintro e w2 ⟨rfl, bN⟩
    replace hp := hp.below bN
    replace hbt := hbt.trans (bN.mono hbt.size)
    clear bN
    go_wp2_with fail
    go_ret
    exact ⟨rfl, hbt⟩
  obtain ⟨hok, m, rfl, hm⟩ := setOk_of (mayF_set hv)
  have hl8 := pitOk_len hok
  have hmay : mayOf bs m = true := by rw [← mayF_nat hok hm]; exact hv
  have hcl := (may_closed hok).1 hmay
  have eO : orderF bs (m : Int) = bitsBelow m bs.length := by simp [orderF, hv]
  have HAT : Hid (∀ k, k < (orderF bs (m : Int)).length → ∃ i : Nat, nth (orderF bs (m : Int)) k = (i : Int) ∧ i < bs.length ∧ sumPow ((orderF bs (m : Int)).take (k + 1)) = sumPow ((orderF bs (m : Int)).take k) + 2 ^ i ∧ ∀ j : Nat, needsB bs i j = true → hasZ ((orderF bs (m : Int)).take k) (j : Int) = true) := by
    intro k hk
    rw [eO] at hk ⊢
    obtain ⟨i, h1, h2, h3, h4⟩ := bits_at hk
    refine ⟨i, h1, h2, by rw [take_nth hk, h1, sumPow_snoc], fun j hn => ?_⟩
    have hji := need_lt hok h2 hn
    rw [h4]
    unfold hasZ
    rw [decide_eq_true_eq, mem_bitsBelow]
    exact ⟨j, rfl, hji, hcl i j h2 (by omega) h3 hn⟩
  have HSUM : Hid (sumPow ((orderF bs (m : Int)).take (orderF bs (m : Int)).length) = m) := by
    show _ = _
    rw [List.take_length, eO, sumPow_bits, Nat.mod_eq_of_lt hm]
  have HNEED : Hid (∀ i, i < bs.length → ∀ j, j < (nth bs i).needs.length → ∃ y : Nat, nth (nth bs i).needs j = (y : Int) ∧ needsB bs i y = true) := fun i hi j hj => by
    obtain ⟨y, hy, _⟩ := pitOk_need hok hi hj
    exact ⟨y, hy, by unfold needsB hasZ; rw [decide_eq_true_eq, ← hy]; exact nth_mem hj⟩
  have hm2 : m < 256 := Nat.lt_of_lt_of_le hm (pow_le_of (k := 8) hl8)
  clear hd eO hcl hmay hm
  go_wp2_with fail
  refine (toB (sMay_any _ _ bs (m : Int) _ (by omega) hp)).mono ?_
  rintro e w2 ⟨rfl, bN⟩
  replace hp := hp.below bN
  replace hO := hO.below bN
  replace hbt := hbt.trans (bN.mono hbt.size)
  clear bN
  generalize orderF bs (m : Int) = O at hO8 hCO hO HAT HSUM
  go_wp2_with fail
  go_loopw [6, 7] (fun sm i wr => ∃ (k T : Nat), k ≤ O.length ∧ i = .int .i64 k ∧ sm = .int .i64 T ∧ T ≤ 256 * k ∧ Hid (T = sumPow (O.take k)) ∧ Pit wr (some ⟨g, 0, none⟩) bs ∧ Ints wr aO O ∧ Below w.heap.size w wr) (fun _ i _ => O.length - (intOf i).toNat)
  case atStart => exact ⟨0, 0, by omega, rfl, rfl, by omega, rfl, hp, hO, hbt⟩
  case round =>
    clear hp hO hbt
    obtain ⟨k, T, hk, rfl, rfl, hT, HT, hp, hO, hbt⟩ := hrel
    by_cases hlt : k < O.length
    · obtain ⟨i, hi1, hi2, hi3, hi4⟩ := HAT.out k hlt
      have HI3 := Lib.hid hi3
      have HI4 := Lib.hid hi4
      clear hi3 hi4
      have hz := hbt.size
      go_wp2_with fail
      go_loopw [8] (fun jj wj => ∃ (j q : Nat), j ≤ (nth bs i).needs.length ∧ jj = .int .i64 j ∧ wj = wr.drewN q) (fun jj _ => (nth bs i).needs.length - (intOf jj).toNat)
      case atStart => exact ⟨0, 0, by omega, rfl, rfl⟩
      case round =>
        obtain ⟨j, q, hj, rfl, rfl⟩ := hrel
        have hp2 := hp.drewN q
        have hO2 := hO.drewN q
        obtain ⟨bo, oo, rfl, hbo, hco⟩ := Ints.at hO hlt
        have c1 := hco k hlt
        rw [hi1] at c1
        obtain ⟨b, off, A, C', e0, hbw, h1, h2, h3, h4, h5, h6⟩ := Pit.at hp hi2
        cases e0
        rw [Nat.zero_add] at h2
        clear hco h1
        by_cases hlt2 : j < (nth bs i).needs.length
        · obtain ⟨b', off', rfl, hb', hc⟩ := Ints.at h6 hlt2
          obtain ⟨y, hy, hny⟩ := HNEED.out i hi2 j hlt2
          have c2 := hc j hlt2
          rw [hy] at c2
          have hh := HI4.out y hny
          have hlen : (O.take k).length = k := by simp; omega
          have hcall := fun q' => hasInt_any (some ⟨bo, oo, none⟩) (O.take k) CO (y : Int) (wr.drewN (q + q')) (by omega) (Ints.take (hO.drewN _) k)
          rw [hlen, hh] at hcall
          have HC := Lib.hid hcall
          clear hc hy hny hlen hcall hh
          have hI1 : (i : Int) < (bs.length : Int) := by omega
          have hI2 : (k : Int) ≤ (CO : Int) := by omega
          have hI3 : (k : Int) < (O.length : Int) := by omega
          go_wp2_with fail
          go_quiet ((go_at_call 35; exact quiet_q (HC.out _)))
          go_wp2_with fail
          go_roundw
          case rel => exact ⟨j + 1, _, by omega, by go_num, rfl⟩
          case measure => simp [intOf] <;> omega
        · have hsh := wrap_pow (n := i) (by omega)
          have hpow : 2 ^ i ≤ 256 := pow_le_of (n := i) (k := 8) (by omega)
          have hp1 : (0 : Int) ≤ 2 ^ i := by rw [nat_pow_int]; exact Int.natCast_nonneg _
          have hp2' : (2 : Int) ^ i ≤ 256 := by rw [nat_pow_int]; omega
          have HPI := Lib.hid (nat_pow_int i)
          go_wp2_with fail
          go_roundw
          case rel => exact ⟨k + 1, T + 2 ^ i, by omega, by go_num, by rw [HPI.out]; simp, by omega, by show _ = _; rw [HI3.out, HT.out], hp2, hO2, below_drewN hbt q⟩
          case measure => simp [intOf] <;> omega
    · have hTm : T = m := by rw [HT.out, show k = O.length by omega]; exact HSUM.out
      have hb := beq_nat hTm
      go_wp2_with fail
      go_ret
      exact ⟨by simp [hTm], hbt⟩
end Go.Proofs.YtnjpifaphmeepaaDoor
