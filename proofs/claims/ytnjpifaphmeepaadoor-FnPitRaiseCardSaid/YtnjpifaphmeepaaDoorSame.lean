/- Walks: laws.sameInts, laws.hasInt, laws.samePit. -/
import Derived.Test.YtnjpifaphmeepaaDoorProg
import Derived.Test.YtnjpifaphmeepaaDoorPit
import Derived.Test.YtnjpifaphmeepaaDoorPayF
import Derived.StillTailTactics
namespace Go.Proofs.YtnjpifaphmeepaaDoor
open Go Go.RowKit

theorem take_eq_step {α : Type} [Inhabited α] {xs ys : List α} {k : Nat} (h1 : k < xs.length) (h2 : k < ys.length) (h : xs.take k = ys.take k) (hx : nth xs k = nth ys k) : xs.take (k + 1) = ys.take (k + 1) := by
  rw [take_nth h1, take_nth h2, h, hx]

theorem sameInts_any (a1 a2 : Option Addr) (c1 c2 : Nat) (xs ys : List Int) (w : World) (hl1 : xs.length ≤ 1048576) (hl2 : ys.length ≤ 1048576) (h1 : Ints w a1 xs) (h2 : Ints w a2 ys) :
    Calls Tryd.prog 32 #[.slice a1 xs.length c1, .slice a2 ys.length c2] w fun e w' => e = .returned (.bool (decide (xs = ys))) ∧ ∃ q, w' = w.drewN q := by
  by_cases hlen : xs.length = ys.length
  · have hne : ((xs.length : Int) != (ys.length : Int)) = false := by simp [hlen]
    have HL := Lib.hid hlen
    clear hlen
    go_enter Tryd.func32, Tryd.ntmps32
    go_wp2_with fail
    clear hne
    go_loopw [5] (fun i wr => ∃ k : Nat, k ≤ xs.length ∧ i = .int .i64 k ∧ Hid (xs.take k = ys.take k) ∧ ∃ q, wr = w.drewN q) (fun i _ => xs.length - (intOf i).toNat)
    case atStart => exact ⟨0, by omega, rfl, rfl, 0, rfl⟩
    case round =>
      obtain ⟨k, hk, rfl, HT, q, rfl⟩ := hrel
      by_cases hlt : k < xs.length
      · have hlt2 : k < ys.length := by rw [← HL.out]; exact hlt
        obtain ⟨b, off, rfl, hbw, hc⟩ := Ints.at h1 hlt
        obtain ⟨b', off', rfl, hbw', hc'⟩ := Ints.at h2 hlt2
        have d1 := hc k hlt
        have d2 := hc' k hlt2
        clear hc hc' h1 h2
        by_cases hx : nth xs k = nth ys k
        · have hne : (nth xs k != nth ys k) = false := by simp [hx]
          have HX := Lib.hid hx
          clear hx
          go_wp2
          go_quiet (fail)
          go_wp2
          go_roundw
          case rel => exact ⟨k + 1, by omega, by go_num, take_eq_step hlt hlt2 HT.out HX.out, _, rfl⟩
          case measure => simp [intOf] <;> omega
        · have hne : (nth xs k != nth ys k) = true := by simpa using hx
          have hno : decide (xs = ys) = false := by
            simp only [decide_eq_false_iff_not]; intro e; exact hx (by rw [e])
          have HNO := Lib.hid hno
          clear hx hno
          go_wp2
          go_quiet (fail)
          go_wp2
          go_ret
          exact ⟨by rw [HNO.out]; rfl, _, by first | rfl | exact World.drewN_drewN _ _ _⟩
      · have he : decide (xs = ys) = true := by
          have h := HT.out
          rw [List.take_of_length_le (by omega), List.take_of_length_le (by rw [← HL.out]; omega)] at h
          simpa using h
        have HE := Lib.hid he
        clear he
        go_wp2
        go_ret
        exact ⟨by rw [HE.out]; rfl, _, rfl⟩
  · have hne : ((xs.length : Int) != (ys.length : Int)) = true := by simp; omega
    have hno : decide (xs = ys) = false := by simp only [decide_eq_false_iff_not]; intro e; exact hlen (by rw [e])
    have HNO := Lib.hid hno
    clear hlen hno
    go_enter Tryd.func32, Tryd.ntmps32
    go_wp2_with fail
    go_ret
    exact ⟨by rw [HNO.out]; rfl, 0, rfl⟩

theorem hasInt_any (a : Option Addr) (xs : List Int) (c : Nat) (x : Int) (w : World) (hl : xs.length ≤ 1048576) (hs : Ints w a xs) :
    Calls Tryd.prog 35 #[.slice a xs.length c, .int .i64 x] w fun e w' => e = .returned (.bool (hasZ xs x)) ∧ w = w' := by
  go_enter Tryd.func35, Tryd.ntmps35
  go_wp2_with fail
  go_loopw [5] (fun i wr => ∃ k : Nat, k ≤ xs.length ∧ i = .int .i64 k ∧ Hid (hasZ xs x = hasZ (xs.drop k) x) ∧ w = wr) (fun i _ => xs.length - (intOf i).toNat)
  case atStart => exact ⟨0, by omega, rfl, rfl, rfl⟩
  case round =>
    obtain ⟨k, hk, rfl, HR, rfl⟩ := hrel
    by_cases hlt : k < xs.length
    · obtain ⟨b, off, rfl, hb, hc⟩ := Ints.at hs hlt
      have h1 := hc k hlt
      clear hc hs
      have hd := drop_nth hlt
      have HD := Lib.hid hd
      clear hd
      by_cases hx : nth xs k = x
      · have HX := Lib.hid hx
        have hx' : (nth xs k == x) = true := by simpa using hx
        clear hx
        go_wp2
        go_ret
        exact ⟨by rw [HR.out, HD.out]; simp [hasZ, HX.out], rfl⟩
      · have hx' : (nth xs k == x) = false := by simpa using hx
        go_wp2
        go_roundw
        case rel => exact ⟨k + 1, by omega, by go_num, by show _ = _; rw [HR.out, HD.out]; simp [hasZ, Ne.symm hx], by trivial⟩
        case measure => simp [intOf] <;> omega
    · go_wp2
      go_ret
      exact ⟨by rw [HR.out, drop_end (xs := xs) (by omega)]; rfl, rfl⟩

theorem samePit_any (a1 a2 : Option Addr) (c1 c2 : Nat) (xs ys : List Blk) (w : World) (hl1 : xs.length ≤ 1048576) (hl2 : ys.length ≤ 1048576) (h1 : Pit w a1 xs) (h2 : Pit w a2 ys) :
    Calls Tryd.prog 38 #[.slice a1 xs.length c1, .slice a2 ys.length c2] w fun e w' => e = .returned (.bool (decide (xs = ys))) ∧ ∃ q, w' = w.drewN q := by
  by_cases hlen : xs.length = ys.length
  · have hne : ((xs.length : Int) != (ys.length : Int)) = false := by simp [hlen]
    have HL := Lib.hid hlen
    clear hlen
    go_enter Tryd.func38, Tryd.ntmps38
    go_wp2_with fail
    clear hne
    go_loopw [5] (fun i wr => ∃ k : Nat, k ≤ xs.length ∧ i = .int .i64 k ∧ Hid (xs.take k = ys.take k) ∧ ∃ q, wr = w.drewN q) (fun i _ => xs.length - (intOf i).toNat)
    case atStart => exact ⟨0, by omega, rfl, rfl, 0, rfl⟩
    case round =>
      obtain ⟨k, hk, rfl, HT, q, rfl⟩ := hrel
      by_cases hlt : k < xs.length
      · have hlt2 : k < ys.length := by rw [← HL.out]; exact hlt
        obtain ⟨b, off, A, C, rfl, hbw, d1, d2, d3, d4, d5, d6⟩ := Pit.at h1 hlt
        obtain ⟨b', off', A', C', rfl, hbw', e1, e2, e3, e4, e5, e6⟩ := Pit.at h2 hlt2
        clear h1 h2
        have HB : Hid (∀ u v : Blk, u.worth = v.worth → u.needs = v.needs → u = v) := by
          rintro ⟨u1, u2⟩ ⟨v1, v2⟩ h h'; cases h; cases h'; rfl
        by_cases hx : (nth xs k).worth = (nth ys k).worth
        · have hne : ((nth xs k).worth != (nth ys k).worth) = false := by simp [hx]
          have HX := Lib.hid hx
          clear hx
          by_cases hn : (nth xs k).needs = (nth ys k).needs
          · have hd : decide ((nth xs k).needs = (nth ys k).needs) = true := by simpa using hn
            have HN := Lib.hid hn
            clear hn
            go_wp2_with fail
            go_quiet ((go_at_call 32; exact quiet_qd (sameInts_any _ _ _ _ _ _ _ d3 e3 (d6.drewN _) (e6.drewN _))))
            go_wp2
            go_roundw
            case rel => exact ⟨k + 1, by omega, by go_num, take_eq_step hlt hlt2 HT.out (HB.out _ _ HX.out HN.out), _, rfl⟩
            case measure => simp [intOf] <;> omega
          · have hd : decide ((nth xs k).needs = (nth ys k).needs) = false := by simpa using hn
            have hno : decide (xs = ys) = false := by
              simp only [decide_eq_false_iff_not]; intro e; exact hn (by rw [e])
            have HNO := Lib.hid hno
            clear hn hno
            go_wp2_with fail
            go_quiet ((go_at_call 32; exact quiet_qd (sameInts_any _ _ _ _ _ _ _ d3 e3 (d6.drewN _) (e6.drewN _))))
            go_wp2
            go_ret
            exact ⟨by rw [HNO.out]; rfl, _, by first | rfl | exact World.drewN_drewN _ _ _⟩
        · have hne : ((nth xs k).worth != (nth ys k).worth) = true := by simpa using hx
          have hno : decide (xs = ys) = false := by
            simp only [decide_eq_false_iff_not]; intro e; exact hx (by rw [e])
          have HNO := Lib.hid hno
          clear hx hno
          go_wp2_with fail
          go_quiet (fail)
          go_wp2
          go_ret
          exact ⟨by rw [HNO.out]; rfl, _, by first | rfl | exact World.drewN_drewN _ _ _⟩
      · have he : decide (xs = ys) = true := by
          have h := HT.out
          rw [List.take_of_length_le (by omega), List.take_of_length_le (by rw [← HL.out]; omega)] at h
          simpa using h
        have HE := Lib.hid he
        clear he
        go_wp2
        go_ret
        exact ⟨by rw [HE.out]; rfl, _, rfl⟩
  · have hne : ((xs.length : Int) != (ys.length : Int)) = true := by simp; omega
    have hno : decide (xs = ys) = false := by simp only [decide_eq_false_iff_not]; intro e; exact hlen (by rw [e])
    have HNO := Lib.hid hno
    clear hlen hno
    go_enter Tryd.func38, Tryd.ntmps38
    go_wp2_with fail
    go_ret
    exact ⟨by rw [HNO.out]; rfl, 0, rfl⟩
end Go.Proofs.YtnjpifaphmeepaaDoor
