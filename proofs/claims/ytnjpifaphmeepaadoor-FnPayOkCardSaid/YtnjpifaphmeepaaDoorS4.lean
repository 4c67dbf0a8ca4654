/- Walks: spec.PitMay, spec.PitBest, spec.PitMost. -/
import Derived.Test.YtnjpifaphmeepaaDoorS3
namespace Go.Proofs.YtnjpifaphmeepaaDoor
open Go Go.RowKit

theorem sMay_any (a : Option Addr) (c : Nat) (bs : List Blk) (s : Int) (w : World) (hl : bs.length ≤ 1048576) (hs : Pit w a bs) :
    Calls Tryd.prog 34 #[.slice a bs.length c, .int .i64 s] w fun e w' => e = .returned (.bool (mayF bs s)) ∧ ∃ q, w' = w.drewN q := by
  cases hv : setOk bs s
  · go_enter Tryd.func34, Tryd.ntmps34
    go_wp2_with (go_at_call 72; refine (l6Set_any _ _ _ _ _ hl hs).mono ?_; rintro e w' ⟨rfl, q, rfl⟩)
    go_ret
    exact ⟨by simp [mayF, hv], _, rfl⟩
  obtain ⟨hp, m, rfl, hm⟩ := setOk_of hv
  have hl8 := pitOk_len hp
  have hm' : m < 256 := Nat.lt_of_lt_of_le hm (pow_le_of (k := 8) hl8)
  have HF : Hid (mayF bs m = mayOf bs m) := by simp [Hid, mayF, hv]
  clear hm
  go_enter Tryd.func34, Tryd.ntmps34
  go_wp2_with (go_at_call 72; refine (l6Set_any _ _ _ _ _ hl hs).mono ?_; rintro e w' ⟨rfl, q0, rfl⟩)
  go_loopw [5] (fun i wr => ∃ (k : Nat), k ≤ bs.length ∧ i = .int .i64 k ∧ Hid (mayOf bs m = mayFrom m k (bs.drop k)) ∧ ∃ q, wr = w.drewN q) (fun i _ => bs.length - (intOf i).toNat)
  case atStart => exact ⟨0, by omega, rfl, rfl, q0, rfl⟩
  case round =>
    obtain ⟨k, hk, rfl, HR, q, rfl⟩ := hrel
    by_cases hlt : k < bs.length
    · obtain ⟨b, off, A, C, rfl, hbw, h1, h2, h3, h4, h5, h6⟩ := Pit.at hs hlt
      have hneed := fun j => pitOk_need hp (i := k) (j := j) (by omega)
      have HN := Lib.hid hneed
      clear hs hneed
      have hd := drop_nth hlt
      have HD := Lib.hid hd
      clear hd
      have hbit := shr_tmod m k
      go_wp2_with fail
      go_loopw [6] (fun ii wi => ∃ (j : Nat), j ≤ (nth bs k).needs.length ∧ ii = .int .i64 j ∧ Hid ((if m.testBit k then needsIn m (nth bs k).needs else true) = (if m.testBit k then needsIn m ((nth bs k).needs.drop j) else true)) ∧ wi = w.drewN q) (fun ii _ => (nth bs k).needs.length - (intOf ii).toNat)
      case atStart => exact ⟨0, by omega, rfl, rfl, rfl⟩
      case round =>
        obtain ⟨j, hj, rfl, HO, rfl⟩ := hrel
        by_cases hlt2 : j < (nth bs k).needs.length
        · obtain ⟨b', off', rfl, hb', hc⟩ := Ints.at h6 hlt2
          obtain ⟨y, hy, hyk⟩ := HN.out j hlt2
          have c1 := hc j hlt2
          rw [hy] at c1
          have HY := Lib.hid hy
          have hd := drop_nth hlt2
          have HD2 := Lib.hid hd
          have hbit2 := shr_tmod m y
          clear hd hy hc
          cases hq : m.testBit k
          · rw [bitZ_false hq] at hbit
            clear hbit2
            go_wp2
            go_roundw
            case rel => exact ⟨j + 1, by omega, by go_num, by show _ = _; simp, by trivial⟩
            case measure => simp [intOf] <;> omega
          · rw [bitZ_true hq] at hbit
            cases hq2 : m.testBit y
            · rw [bitZ_false hq2] at hbit2
              go_wp2
              go_ret
              have e1 : (if m.testBit k then needsIn m (nth bs k).needs else true) = false := by rw [HO.out, HD2.out]; simp [needsIn, HY.out, hq, hq2]
              exact ⟨by rw [HF.out, HR.out, HD.out]; simp only [mayFrom, e1, Bool.false_and]; rfl, _, rfl⟩
            · rw [bitZ_true hq2] at hbit2
              have HO2 : Hid (needsIn m (nth bs k).needs = needsIn m ((nth bs k).needs.drop (j + 1))) := by
                have h := HO.out
                rw [hq, if_pos rfl, if_pos rfl, HD2.out] at h
                simpa [Hid, needsIn, HY.out, hq2] using h
              go_wp2
              go_roundw
              case rel => exact ⟨j + 1, by omega, by go_num, by show _ = _; first | exact HO2.out | (rw [if_pos rfl, if_pos rfl]; exact HO2.out), by trivial⟩
              case measure => simp [intOf] <;> omega
        · clear hbit
          go_wp2
          go_roundw
          case rel => exact ⟨k + 1, by omega, by go_num, by show _ = _; rw [HR.out, HD.out]; simp only [mayFrom]; rw [HO.out, List.drop_eq_nil_of_le (by omega)]; simp [needsIn], _, rfl⟩
          case measure => simp [intOf] <;> omega
    · go_wp2
      go_ret
      exact ⟨by rw [HF.out, HR.out, List.drop_eq_nil_of_le (by omega)]; rfl, _, rfl⟩

theorem sBest_any (a : Option Addr) (c : Nat) (bs : List Blk) (w : World) (hl : bs.length ≤ 1048576) (hs : Pit w a bs) :
    Calls Tryd.prog 53 #[.slice a bs.length c] w fun e w' => e = .returned (.int .i64 (bestF bs)) ∧ ∃ q, w' = w.drewN q := by
  cases hp : pitOk bs
  · go_enter Tryd.func53, Tryd.ntmps53
    go_wp2_with fail
    go_loopw [3, 4] (fun b i wr => i = .int .i64 0 ∧ b = .int .i64 (-1) ∧ wr = w) (fun _ i _ => 0 * (intOf i).toNat)
    case atStart => exact ⟨rfl, rfl, rfl⟩
    case round =>
      obtain ⟨rfl, rfl, rfl⟩ := hrel
      by_cases h0 : 0 < wrap64 (2 ^ min bs.length 64)
      · go_wp2_with (go_at_call 19; refine (spitValid_any _ _ _ _ hl hs).mono ?_; rintro e w' ⟨rfl, q, rfl⟩)
        go_ret
        exact ⟨by simp [bestF, hp], _, rfl⟩
      · go_wp2_with fail
        go_ret
        exact ⟨by simp [bestF, hp], 0, rfl⟩
  have hl8 := pitOk_len hp
  have hw := wrap_pow (n := bs.length) (by omega)
  obtain ⟨P, hP⟩ : ∃ P, P = 2 ^ bs.length := ⟨_, rfl⟩
  have hPi : (2 : Int) ^ bs.length = (P : Int) := by rw [hP]; simp
  have hP8 : P ≤ 256 := by rw [hP]; exact pow_le_of (k := 8) hl8
  have HF : Hid (bestF bs = scanB bs P 0 (-1)) := by show _ = _; rw [hP]; simp [bestF, hp]
  have HPM : Hid (∀ s : Nat, s < P → setOk bs s = true) := fun s hs => setOk_nat hp (by omega)
  rw [hPi] at hw
  clear hP
  go_enter Tryd.func53, Tryd.ntmps53
  go_wp2_with fail
  go_loopw [3, 4] (fun b i wr => ∃ (k : Nat) (B : Int), k ≤ P ∧ i = .int .i64 k ∧ b = .int .i64 B ∧ Hid (bestF bs = scanB bs (P - k) k B) ∧ ∃ q, wr = w.drewN q) (fun _ i _ => P - (intOf i).toNat)
  case atStart => exact ⟨0, -1, by omega, rfl, rfl, HF, 0, rfl⟩
  case round =>
    obtain ⟨k, B, hk, rfl, rfl, HR, q, rfl⟩ := hrel
    by_cases hlt : k < P
    · have hset := HPM.out k hlt
      have hmin : min bs.length 64 = bs.length := by omega
      have hsc : scanB bs (P - k) k B = scanB bs (P - (k + 1)) (k + 1) (bestStep bs k B) := by rw [show P - k = (P - (k + 1)) + 1 by omega]; rfl
      have hmF : mayF bs k = mayOf bs k := by simp [mayF, hset]
      have hwF : pitWorthF bs k = worthOf bs k := by simp [pitWorthF, hset]
      have hst : bestStep bs k B = if mayF bs k && (decide (B < 0) || decide (pitWorthF bs B < pitWorthF bs k)) then (k : Int) else B := by rw [hmF, hwF]; rfl
      have HS := Lib.hid hsc
      have HT := Lib.hid hst
      clear hsc hst hmF hwF hset
      have sub : ∀ q, Pit (w.drewN q) a bs := fun q => hs.below (below_drewN (Below.refl _ _) q)
      cases hm : mayF bs k
      · have e : bestStep bs k B = B := by rw [HT.out, hm]; rfl
        have HE := Lib.hid e
        clear e
        go_wp2_with (first | (go_at_call 19; refine (spitValid_any _ _ _ _ hl (sub _)).mono ?_; rintro e w' ⟨rfl, q', rfl⟩) | (go_at_call 34; refine (sMay_any _ _ _ _ _ hl (sub _)).mono ?_; rintro e w' ⟨rfl, q2, rfl⟩))
        go_roundw
        case rel => exact ⟨k + 1, B, by omega, by go_num, rfl, by show _ = _; rw [HR.out, HS.out, HE.out], _, rfl⟩
        case measure => simp [intOf] <;> omega
      · by_cases hB0 : B < 0
        · have e : bestStep bs k B = k := by rw [HT.out, hm]; simp [hB0]
          have HE := Lib.hid e
          clear e
          go_wp2_with (first | (go_at_call 19; refine (spitValid_any _ _ _ _ hl (sub _)).mono ?_; rintro e w' ⟨rfl, q', rfl⟩) | (go_at_call 34; refine (sMay_any _ _ _ _ _ hl (sub _)).mono ?_; rintro e w' ⟨rfl, q2, rfl⟩) | (go_at_call 58; refine (sWorth_any _ _ _ _ _ hl (sub _)).mono ?_; rintro e w' ⟨rfl, q3, rfl⟩))
          go_roundw
          case rel => exact ⟨k + 1, k, by omega, by go_num, rfl, by show _ = _; rw [HR.out, HS.out, HE.out], _, rfl⟩
          case measure => simp [intOf] <;> omega
        · by_cases hlt2 : pitWorthF bs B < pitWorthF bs k
          · have e : bestStep bs k B = k := by rw [HT.out, hm]; simp [hlt2]
            have HE := Lib.hid e
            clear e
            go_wp2_with (first | (go_at_call 19; refine (spitValid_any _ _ _ _ hl (sub _)).mono ?_; rintro e w' ⟨rfl, q', rfl⟩) | (go_at_call 34; refine (sMay_any _ _ _ _ _ hl (sub _)).mono ?_; rintro e w' ⟨rfl, q2, rfl⟩) | (go_at_call 58; refine (sWorth_any _ _ _ _ _ hl (sub _)).mono ?_; rintro e w' ⟨rfl, q3, rfl⟩))
            go_roundw
            case rel => exact ⟨k + 1, k, by omega, by go_num, rfl, by show _ = _; rw [HR.out, HS.out, HE.out], _, rfl⟩
            case measure => simp [intOf] <;> omega
          · have e : bestStep bs k B = B := by rw [HT.out, hm]; simp [hB0, hlt2]
            have HE := Lib.hid e
            clear e
            go_wp2_with (first | (go_at_call 19; refine (spitValid_any _ _ _ _ hl (sub _)).mono ?_; rintro e w' ⟨rfl, q', rfl⟩) | (go_at_call 34; refine (sMay_any _ _ _ _ _ hl (sub _)).mono ?_; rintro e w' ⟨rfl, q2, rfl⟩) | (go_at_call 58; refine (sWorth_any _ _ _ _ _ hl (sub _)).mono ?_; rintro e w' ⟨rfl, q3, rfl⟩))
            go_roundw
            case rel => exact ⟨k + 1, B, by omega, by go_num, rfl, by show _ = _; rw [HR.out, HS.out, HE.out], _, rfl⟩
            case measure => simp [intOf] <;> omega
    · have hmin : min bs.length 64 = bs.length := by omega
      go_wp2
      go_ret
      exact ⟨by rw [HR.out, show P - k = 0 by omega]; rfl, _, rfl⟩

theorem sMost_any (a : Option Addr) (c : Nat) (bs : List Blk) (w : World) (hl : bs.length ≤ 1048576) (hs : Pit w a bs) :
    Calls Tryd.prog 42 #[.slice a bs.length c] w fun e w' => e = .returned (.int .i64 (mostF bs)) ∧ ∃ q, w' = w.drewN q := by
  have sub : ∀ q, Pit (w.drewN q) a bs := fun q => hs.below (below_drewN (Below.refl _ _) q)
  cases hp : pitOk bs
  · go_enter Tryd.func42, Tryd.ntmps42
    go_wp2_with (go_at_call 19; refine (spitValid_any _ _ _ _ hl hs).mono ?_; rintro e w' ⟨rfl, q, rfl⟩)
    go_ret
    exact ⟨by simp [mostF, hp], _, rfl⟩
  go_enter Tryd.func42, Tryd.ntmps42
  go_wp2_with (first | (go_at_call 19; refine (spitValid_any _ _ _ _ hl hs).mono ?_; rintro e w' ⟨rfl, q, rfl⟩) | (go_at_call 53; refine (sBest_any _ _ _ _ hl (sub _)).mono ?_; rintro e w' ⟨rfl, q2, rfl⟩) | (go_at_call 58; refine (sWorth_any _ _ _ _ _ hl (sub _)).mono ?_; rintro e w' ⟨rfl, q3, rfl⟩))
  go_ret
  exact ⟨by simp [mostF, hp], _, rfl⟩
end Go.Proofs.YtnjpifaphmeepaaDoor
