/- Walks: impl.PitBest, impl.PitMost, impl.PitMay. -/
import Derived.Test.YtnjpifaphmeepaaDoorW8
import Derived.Test.YtnjpifaphmeepaaDoorBest
namespace Go.Proofs.YtnjpifaphmeepaaDoor
open Go Go.RowKit

set_option maxRecDepth 100000 in
set_option maxHeartbeats 1000000 in
theorem pitBest_any (a : Option Addr) (c : Nat) (bs : List Blk) (w : World) (hl : bs.length ≤ 1048576) (hs : Pit w a bs) :
    Calls Tryd.prog 48 #[.slice a bs.length c] w fun e w' => e = .returned (.int .i64 (bestF bs)) ∧ Below w.heap.size w w' := by
  cases hp : pitOk bs
  · go_enter Tryd.func48, Tryd.ntmps48
    go_wp2_with (go_at_call 18; refine (pitValid_any _ _ _ _ hl hs).mono ?_; rintro e w' ⟨rfl, hb⟩)
    go_ret
    exact ⟨by simp [bestF, hp], hb⟩
  have hl8 := pitOk_len hp
  go_enter Tryd.func48, Tryd.ntmps48
  go_wp2_with (go_at_call 18; refine (pitValid_any _ _ _ _ hl hs).mono ?_; rintro e w1 ⟨rfl, hb1⟩)
  refine (pitFlow_any _ _ _ _ (hs.below hb1) hp).mono ?_
  rintro e w2 ⟨R, val, f, rfl, hm, hfl, hB, hft, hz2, hb2⟩
  have hb3 : Below w.heap.size w w2 := hb1.trans (hb2.mono hb1.size)
  clear hb2
  generalize w1.heap.size = X at *
  go_wp2_with fail
  refine (reachedFrom_any X (bs.length + 2) bs.length R w2 (by omega) (by omega) hm (by omega)).mono ?_
  rintro e w3 ⟨f', rfl, o3, hB', b3⟩
  have hft' : f' (bs.length + 1) < 0 := by
    by_cases hh : f' (bs.length + 1) < 0
    · exact hh
    · exfalso
      have h1 := hB'.inside (fun v => decide (0 ≤ f v)) (by have := hB.start; simp; omega) (fun u v hu hv h1 h2 => by
        simp only [decide_eq_true_eq, decide_eq_false_iff_not] at h1 h2
        by_cases hR : R u v ≤ 0
        · exact hR
        · exact absurd (hB.on u v hu hv h1 (by omega)) h2) (bs.length + 1) (by omega) (by omega)
      simp only [decide_eq_true_eq] at h1; omega
  have hbest := best_of hp (reach_best hp hfl hB' hft').1
  have HBT := Lib.hid hbest
  have hb4 : Below w.heap.size w w3 := hb3.trans (b3.mono hb3.size)
  clear hbest b3 hm hfl hB hB' hft hft' hb3
  go_wp2_with fail
  go_loopw [6, 23] (fun m i wr => ∃ (k : Nat), k ≤ bs.length + 2 ∧ i = .int .i64 k ∧ m = .int .i64 (maskOf (reachS f') (min k bs.length) : Nat) ∧ wr = w3) (fun _ i _ => bs.length + 2 - (intOf i).toNat)
  case atStart => exact ⟨0, by omega, rfl, by simp [maskOf], by trivial⟩
  case round =>
    obtain ⟨k, hk, rfl, rfl, rfl⟩ := hrel
    by_cases hlt : k < bs.length + 2
    · have c1 := o3.cell hlt
      by_cases hkb : k < bs.length
      · have hml : maskOf (reachS f') k < 256 := Nat.lt_of_lt_of_le (maskOf_lt _ _) (pow_le_of (k := 8) (by omega))
        have e1 : min k bs.length = k := by omega
        have e2 : min (k + 1) bs.length = k + 1 := by omega
        rw [e1]
        by_cases hf : 0 ≤ f' k
        · have hsh := wrap_pow (n := k) (by omega)
          have hor := bits_or_nat (maskOf (reachS f') k) (2 ^ k) (by omega) (by have := pow_le_of (n := k) (k := 8) (by omega); omega)
          simp only [Int.natCast_pow, Int.cast_ofNat_Int] at hor
          have e3 : maskOf (reachS f') (k + 1) = maskOf (reachS f') k ||| 2 ^ k := by rw [maskOf, if_pos (by simpa [reachS] using hf)]
          have E3 := Lib.hid e3
          clear e3 e1 e2
          go_wp2
          go_roundw
          case rel => exact ⟨k + 1, by omega, by go_num, by rw [show min (k + 1) bs.length = k + 1 by omega, E3.out], by trivial⟩
          case measure => simp [intOf] <;> omega
        · have e3 : maskOf (reachS f') (k + 1) = maskOf (reachS f') k := by rw [maskOf, if_neg (by simpa [reachS] using hf)]
          have E3 := Lib.hid e3
          clear e3 e1 e2
          go_wp2
          go_roundw
          case rel => exact ⟨k + 1, by omega, by go_num, by rw [show min (k + 1) bs.length = k + 1 by omega, E3.out], by trivial⟩
          case measure => simp [intOf] <;> omega
      · have e1 : min k bs.length = bs.length := by omega
        rw [e1]
        clear e1
        generalize hM : maskOf (reachS f') bs.length = M
        have HM := Lib.hid hM
        clear hM
        go_wp2
        go_roundw
        case rel => exact ⟨k + 1, by omega, by go_num, by rw [show min (k + 1) bs.length = bs.length by omega, HM.out], by trivial⟩
        case measure => simp [intOf] <;> omega
    · have e1 : min k bs.length = bs.length := by omega
      rw [e1]
      clear e1
      have hX := HBT.out
      go_wp2
      go_ret
      exact ⟨by rw [hX]; rfl, hb4⟩

theorem pitMost_any (a : Option Addr) (c : Nat) (bs : List Blk) (w : World) (hl : bs.length ≤ 1048576) (hs : Pit w a bs) :
    Calls Tryd.prog 41 #[.slice a bs.length c] w fun e w' => e = .returned (.int .i64 (mostF bs)) ∧ Below w.heap.size w w' := by
  cases hp : pitOk bs
  · go_enter Tryd.func41, Tryd.ntmps41
    go_wp2_with (go_at_call 18; refine (pitValid_any _ _ _ _ hl hs).mono ?_; rintro e w' ⟨rfl, hb⟩)
    go_ret
    exact ⟨by simp [mostF, hp], hb⟩
  go_enter Tryd.func41, Tryd.ntmps41
  go_wp2_with (go_at_call 18; refine (pitValid_any _ _ _ _ hl hs).mono ?_; rintro e w1 ⟨rfl, hb1⟩)
  refine (pitBest_any _ _ _ _ hl (hs.below hb1)).mono ?_
  rintro e w2 ⟨rfl, hb2⟩
  have hb3 : Below w.heap.size w w2 := hb1.trans (hb2.mono hb1.size)
  go_wp2_with fail
  refine (pitWorth_any _ _ _ _ _ hl (hs.below hb3)).mono ?_
  rintro e w3 ⟨rfl, hb4⟩
  go_wp2_with fail
  go_ret
  exact ⟨by simp [mostF, hp], hb3.trans (hb4.mono hb3.size)⟩
end Go.Proofs.YtnjpifaphmeepaaDoor
