/- Walks: spec.l6Set, spec.PitMay, spec.PitWorth. -/
import Derived.Test.YtnjpifaphmeepaaDoorS1
import Derived.Test.YtnjpifaphmeepaaDoorBest
namespace Go.Proofs.YtnjpifaphmeepaaDoor
open Go Go.RowKit

theorem shr_tmod (m k : Nat) : Int.tmod ((m : Int) / 2 ^ k) 2 = bitZ m k := by
  have e : ((m : Int) / 2 ^ k) = ((m / 2 ^ k : Nat) : Int) := by simp
  rw [← shr_mod, Int.tmod_eq_emod_of_nonneg (by rw [e]; exact Int.natCast_nonneg _)]

theorem setOk_sIn {bs : List Blk} (hp : pitOk bs = true) (s : Int) : sIn s 0 (2 ^ bs.length - 1) = setOk bs s := by
  simp only [setOk, hp, Bool.true_and, sIn]
  congr 1
  rw [decide_eq_decide]; omega

theorem l6Set_any (a : Option Addr) (c : Nat) (bs : List Blk) (s : Int) (w : World) (hl : bs.length ≤ 1048576) (hs : Pit w a bs) :
    Calls Tryd.prog 72 #[.slice a bs.length c, .int .i64 s] w fun e w' => e = .returned (.bool (setOk bs s)) ∧ ∃ q, w' = w.drewN q := by
  cases hp : pitOk bs
  · go_enter Tryd.func72, Tryd.ntmps72
    go_wp2_with (go_at_call 19; refine (spitValid_any _ _ _ _ hl hs).mono ?_; rintro e w' ⟨rfl, hb⟩)
    go_ret
    exact ⟨by simp [setOk, hp], hb⟩
  · have hn := pitOk_len hp
    have hw := wrap_pow (n := bs.length) (by omega)
    have h8 : (2 : Int) ^ bs.length ≤ 256 := by
      have := pow_le_of (n := bs.length) (k := 8) hn
      have e : ((2 : Int) ^ bs.length) = ((2 ^ bs.length : Nat) : Int) := by simp
      rw [e]; omega
    have h0 : (0 : Int) ≤ 2 ^ bs.length := by
      have e : ((2 : Int) ^ bs.length) = ((2 ^ bs.length : Nat) : Int) := by simp
      rw [e]; exact Int.natCast_nonneg _
    go_enter Tryd.func72, Tryd.ntmps72
    go_wp2_with (first | (go_at_call 19; refine (spitValid_any _ _ _ _ hl hs).mono ?_; rintro e w' ⟨rfl, hb⟩) | (go_at_call 68; refine (l1In_any _ _ _ _).mono ?_; rintro e w' ⟨rfl, rfl⟩))
    go_ret
    exact ⟨by rw [← setOk_sIn hp]; rfl, hb⟩

theorem sWorth_any (a : Option Addr) (c : Nat) (bs : List Blk) (s : Int) (w : World) (hl : bs.length ≤ 1048576) (hs : Pit w a bs) :
    Calls Tryd.prog 58 #[.slice a bs.length c, .int .i64 s] w fun e w' => e = .returned (.int .i64 (pitWorthF bs s)) ∧ ∃ q, w' = w.drewN q := by
  cases hv : setOk bs s
  · go_enter Tryd.func58, Tryd.ntmps58
    go_wp2_with fail
    go_loopw [5, 6] (fun t i wr => i = .int .i64 0 ∧ t = .int .i64 0 ∧ wr = w) (fun _ i _ => 0 * (intOf i).toNat)
    case atStart => exact ⟨rfl, rfl, rfl⟩
    case round =>
      obtain ⟨rfl, rfl, rfl⟩ := hrel
      by_cases h0 : 0 < bs.length
      · go_wp2_with (go_at_call 72; refine (l6Set_any _ _ _ _ _ hl hs).mono ?_; rintro e w' ⟨rfl, q, rfl⟩)
        go_ret
        exact ⟨by simp [pitWorthF, hv], _, rfl⟩
      · go_wp2
        go_ret
        exact ⟨by simp [pitWorthF, hv], 0, rfl⟩
  obtain ⟨hp, m, rfl, hm⟩ := setOk_of hv
  have hl8 := pitOk_len hp
  have hm' : m < 256 := Nat.lt_of_lt_of_le hm (pow_le_of (k := 8) hl8)
  have HF : Hid (pitWorthF bs m = worthOf bs m) := by simp [Hid, pitWorthF, hv]
  clear hm
  go_enter Tryd.func58, Tryd.ntmps58
  go_wp2_with fail
  go_loopw [5, 6] (fun t i wr => ∃ (k : Nat) (T : Int), k ≤ bs.length ∧ i = .int .i64 k ∧ t = .int .i64 T ∧ -20 * k ≤ T ∧ T ≤ 20 * k ∧ Hid (worthOf bs m = T + worthFrom m k (bs.drop k)) ∧ ∃ q, wr = w.drewN q) (fun _ i _ => bs.length - (intOf i).toNat)
  case atStart => exact ⟨0, 0, by omega, rfl, rfl, by omega, by omega, by simp [Hid, worthOf], 0, rfl⟩
  case round =>
    obtain ⟨k, T, hk, rfl, rfl, ht1, ht2, HR, q, rfl⟩ := hrel
    by_cases hlt : k < bs.length
    · obtain ⟨b, off, A, C, rfl, hbw, h1, h2, h3, h4, h5, h6⟩ := Pit.at hs hlt
      obtain ⟨hw1, hw2⟩ := pitOk_worth hp hlt
      have hd := drop_nth hlt
      have HD := Lib.hid hd
      clear hd
      have hbit := shr_tmod m k
      cases hq : m.testBit k
      · rw [bitZ_false hq] at hbit
        go_wp2_with (go_at_call 72; refine (l6Set_any _ _ _ _ _ hl (hs.below (below_drewN (Below.refl _ _) q))).mono ?_; rintro e w' ⟨rfl, q', rfl⟩)
        go_roundw
        case rel => exact ⟨k + 1, T, by omega, by go_num, rfl, by omega, by omega, by show _ = _; rw [HR.out, HD.out]; simp [worthFrom, hq], _, rfl⟩
        case measure => simp [intOf]; omega
      · rw [bitZ_true hq] at hbit
        go_wp2_with (go_at_call 72; refine (l6Set_any _ _ _ _ _ hl (hs.below (below_drewN (Below.refl _ _) q))).mono ?_; rintro e w' ⟨rfl, q', rfl⟩)
        go_roundw
        case rel => exact ⟨k + 1, T + (nth bs k).worth, by omega, by go_num, rfl, by omega, by omega, by show _ = _; rw [HR.out, HD.out]; simp [worthFrom, hq]; omega, _, rfl⟩
        case measure => simp [intOf]; omega
    · go_wp2
      go_ret
      exact ⟨by rw [HF.out, HR.out, List.drop_eq_nil_of_le (by omega)]; simp [worthFrom], _, rfl⟩
end Go.Proofs.YtnjpifaphmeepaaDoor
