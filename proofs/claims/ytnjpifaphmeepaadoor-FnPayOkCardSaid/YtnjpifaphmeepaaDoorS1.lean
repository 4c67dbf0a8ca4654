/- Walks over the reference: l1In, l1Has, spec.PitValid. -/
import Derived.Test.YtnjpifaphmeepaaDoorW5
namespace Go.Proofs.YtnjpifaphmeepaaDoor
open Go Go.RowKit

def sIn (n lo hi : Int) : Bool := decide (lo ≤ n) && decide (n ≤ hi)

theorem l1In_any (n lo hi : Int) (w : World) :
    Calls Tryd.prog 68 #[.int .i64 n, .int .i64 lo, .int .i64 hi] w fun e w' => e = .returned (.bool (sIn n lo hi)) ∧ w = w' := by
  by_cases h : lo ≤ n
  · go_enter Tryd.func68, Tryd.ntmps68
    go_wp2
    go_ret
    exact ⟨by simp [sIn, h], rfl⟩
  · have h' : decide (lo ≤ n) = false := by simpa using h
    have H := Lib.hid h'
    clear h'
    go_enter Tryd.func68, Tryd.ntmps68
    go_wp2
    go_ret
    exact ⟨by simp only [sIn, H.out]; rfl, rfl⟩

theorem l1Has_any (a : Option Addr) (xs : List Int) (c : Nat) (x : Int) (w : World) (hl : xs.length ≤ 1048576) (hs : Ints w a xs) :
    Calls Tryd.prog 76 #[.slice a xs.length c, .int .i64 x] w fun e w' => e = .returned (.bool (hasZ xs x)) ∧ w = w' := by
  go_enter Tryd.func76, Tryd.ntmps76
  go_wp2_with fail
  go_loopw [5] (fun i wr => ∃ k : Nat, k ≤ xs.length ∧ i = .int .i64 k ∧ Hid (hasZ xs x = hasZ (xs.drop k) x) ∧ w = wr) (fun i _ => xs.length - (intOf i).toNat)
  case atStart => exact ⟨0, by omega, rfl, rfl, rfl⟩
  case round =>
    obtain ⟨k, hk, rfl, HR, rfl⟩ := hrel
    by_cases hlt : k < xs.length
    · obtain ⟨b, off, rfl, hb, hc⟩ := Ints.at hs hlt
      have h1 := hc k hlt
      clear hc hs
      have hd := drop_nth hlt
      have HD := Lib.hid hd
      clear hd
      by_cases hx : nth xs k = x
      · have HX := Lib.hid hx
        have hx' : (nth xs k == x) = true := by simpa using hx
        clear hx
        go_wp2
        go_ret
        exact ⟨by rw [HR.out, HD.out]; simp [hasZ, HX.out], rfl⟩
      · have hx' : (nth xs k == x) = false := by simpa using hx
        go_wp2
        go_roundw
        case rel => exact ⟨k + 1, by omega, by go_num, by show _ = _; rw [HR.out, HD.out]; simp [hasZ, Ne.symm hx], by trivial⟩
        case measure => simp [intOf] <;> omega
    · go_wp2
      go_ret
      exact ⟨by rw [HR.out, drop_end (xs := xs) (by omega)]; rfl, rfl⟩

theorem sIn_idx (x : Int) (k : Nat) : sIn x 0 ((k : Int) - 1) = isIdx x k := by
  unfold sIn isIdx
  congr 1
  rw [decide_eq_decide]
  omega
theorem sIn_in (x : Int) : sIn x (-20) 20 = isIn x 20 := rfl

theorem spitValid_any (a : Option Addr) (c : Nat) (bs : List Blk) (w : World) (hl : bs.length ≤ 1048576) (hs : Pit w a bs) :
    Calls Tryd.prog 19 #[.slice a bs.length c] w fun e w' => e = .returned (.bool (pitOk bs)) ∧ ∃ q, w' = w.drewN q := by
  go_enter Tryd.func19, Tryd.ntmps19
  go_wp2_with fail
  go_loopw [3] (fun i wr => ∃ k : Nat, k ≤ bs.length ∧ i = .int .i64 k ∧ Hid (pitOk bs = (decide (bs.length ≤ 8) && blksOk k (bs.drop k))) ∧ ∃ q, wr = w.drewN q) (fun i _ => bs.length - (intOf i).toNat)
  case atStart => exact ⟨0, by omega, rfl, rfl, 0, rfl⟩
  case round =>
    obtain ⟨k, hk, rfl, HR, q, rfl⟩ := hrel
    by_cases hlt : k < bs.length
    · obtain ⟨b, off, A, C, rfl, hbw, h1, h2, h3, h4, h5, h6⟩ := Pit.at hs hlt
      clear hs
      have hd := drop_nth hlt
      have HD := Lib.hid hd
      clear hd
      go_wp2_with fail
      go_loopw [4] (fun ii wi => ∃ j : Nat, j ≤ (nth bs k).needs.length ∧ ii = .int .i64 j ∧ Hid ((areIdx (nth bs k).needs k && ascB (nth bs k).needs) = (areIdx ((nth bs k).needs.drop j) k && ascB ((nth bs k).needs.drop (j - 1)))) ∧ ∃ q, wi = w.drewN q) (fun ii _ => (nth bs k).needs.length - (intOf ii).toNat)
      case atStart => exact ⟨0, by omega, rfl, rfl, q, rfl⟩
      case round =>
        obtain ⟨j, hj, rfl, HA, q, rfl⟩ := hrel
        by_cases hlt2 : j < (nth bs k).needs.length
        · obtain ⟨b', off', rfl, hb', hc⟩ := Ints.at h6 hlt2
          have c1 := hc j hlt2
          have c2 := hc (j - 1) (by omega)
          have hd := drop_nth hlt2
          have HD2 := Lib.hid hd
          have hst : 1 ≤ j → _ := fun hh => ascB_step hlt2 hh
          have HST := Lib.hid hst
          clear hd hc h6 hst
          have HW1 : Hid (IntKind.i64.wrap ((k : Int) - 1) = (k : Int) - 1) := IntWalk.i64_in _ (by omega)
          have HW2 : 1 ≤ j → IntKind.i64.wrap ((j : Int) - 1) = (j : Int) - 1 := fun _ => IntWalk.i64_in _ (by omega)
          have HW2 := Lib.hid HW2
          have hin := sIn_idx (nth (nth bs k).needs j) k
          cases hx : isIdx (nth (nth bs k).needs j) k
          · rw [hx] at hin
            have HX := Lib.hid hx
            clear hx
            go_wp2_with fail
            have w1 := HW1.out
            go_quiet ((go_at_call 68; exact quiet_q (l1In_any _ _ _ _)))
            clear w1
            go_wp2
            go_ret
            have hbad : (areIdx (nth bs k).needs k && ascB (nth bs k).needs) = false := by rw [HA.out, HD2.out]; simp [areIdx, HX.out]
            have fin : pitOk bs = false := by rw [HR.out, HD.out]; simp only [blksOk, blkOk, Bool.and_assoc, hbad, Bool.and_false, Bool.false_and]
            exact ⟨by rw [fin]; rfl, _, World.drewN_drewN _ _ _⟩
          · rw [hx] at hin
            have HX := Lib.hid hx
            clear hx
            by_cases hj0 : j = 0
            · have hg : decide (0 < j) = false := by simp [hj0]
              have HJ := Lib.hid hj0
              clear hj0
              go_wp2_with fail
              have w1 := HW1.out
              go_quiet ((go_at_call 68; exact quiet_q (l1In_any _ _ _ _)))
              clear w1
              go_wp2
              go_roundw
              case rel =>
                refine ⟨j + 1, by omega, by go_num, ?_, _, rfl⟩
                show _ = _
                rw [HA.out, HD2.out]
                have e := HJ.out
                subst e
                simp [areIdx, HX.out]
              case measure => simp [intOf] <;> omega
            · have hg : decide (0 < j) = true := by simp; omega
              have hst := HST.out (by omega)
              by_cases hlt3 : nth (nth bs k).needs (j - 1) < nth (nth bs k).needs j
              · have hst2 := hst
                rw [decide_eq_true hlt3] at hst2
                have HS2 := Lib.hid hst2
                clear hst hst2
                go_wp2_with fail
                have w2 := HW2.out (by omega)
                have w1 := HW1.out
                go_quiet ((go_at_call 68; exact quiet_q (l1In_any _ _ _ _)))
                clear w1 w2
                go_wp2
                go_roundw
                case rel =>
                  refine ⟨j + 1, by omega, by go_num, ?_, _, rfl⟩
                  show _ = _
                  rw [HA.out, HS2.out]
                  simp only [Nat.add_sub_cancel, Bool.true_and]
                  congr 1
                  rw [HD2.out]
                  simp [areIdx, HX.out]
                case measure => simp [intOf] <;> omega
              · have hst2 := hst
                rw [decide_eq_false hlt3] at hst2
                have HS2 := Lib.hid hst2
                clear hst hst2
                go_wp2_with fail
                have w2 := HW2.out (by omega)
                have w1 := HW1.out
                go_quiet ((go_at_call 68; exact quiet_q (l1In_any _ _ _ _)))
                clear w1 w2
                go_wp2
                go_ret
                have hbad : (areIdx (nth bs k).needs k && ascB (nth bs k).needs) = false := by rw [HA.out, HS2.out]; simp
                have fin : pitOk bs = false := by rw [HR.out, HD.out]; simp only [blksOk, blkOk, Bool.and_assoc, hbad, Bool.and_false, Bool.false_and]
                exact ⟨by rw [fin]; rfl, _, World.drewN_drewN _ _ _⟩
        · have hgood : (areIdx (nth bs k).needs k && ascB (nth bs k).needs) = true := by
            rw [HA.out, drop_end (xs := (nth bs k).needs) (k := j) (by omega), ascB_end (by omega)]; rfl
          have HG := Lib.hid hgood
          clear hgood
          have hin := sIn_in (nth bs k).worth
          cases hx : isIn (nth bs k).worth 20
          · rw [hx] at hin
            have HX := Lib.hid hx
            clear hx
            go_wp2_with (go_at_call 68; refine (l1In_any _ _ _ _).mono ?_; rintro e w' ⟨rfl, rfl⟩)
            go_ret
            exact ⟨by rw [HR.out, HD.out]; simp [blksOk, blkOk, HX.out], _, rfl⟩
          · rw [hx] at hin
            have HX := Lib.hid hx
            clear hx
            go_wp2_with (go_at_call 68; refine (l1In_any _ _ _ _).mono ?_; rintro e w' ⟨rfl, rfl⟩)
            go_roundw
            case rel => exact ⟨k + 1, by omega, by go_num, by show _ = _; rw [HR.out, HD.out]; simp only [blksOk, blkOk, HX.out, Bool.true_and, HG.out], _, rfl⟩
            case measure => simp [intOf] <;> omega
    · go_wp2
      go_ret
      exact ⟨by rw [HR.out, drop_end (xs := bs) (by omega)]; simp [blksOk]; omega, _, rfl⟩
end Go.Proofs.YtnjpifaphmeepaaDoor
