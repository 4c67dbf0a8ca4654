/- The law FnPitCut, walked. -/
import Derived.Test.YtnjpifaphmeepaaDoorLat
namespace Go.Proofs.YtnjpifaphmeepaaDoor
open Go Go.RowKit

set_option maxRecDepth 100000 in
set_option maxHeartbeats 1000000 in
theorem lawPitCut (a : Option Addr) (n c : Nat) (w : World) (hc : n ≤ c) (hn : n ≤ 9223372036854775807) (hb : n ≤ 1048576 → Bytes w a n) (hpw : Pow w) :
    Calls Tryd.prog 5 #[.slice a n c] w fun e w' => e = .returned (.bool true) ∧ Below w.heap.size w w' := by
  by_cases hbig : 1048576 < n
  · go_enter Tryd.func5, Tryd.ntmps5
    go_wp2_with fail
    go_ret
    exact ⟨rfl, (by repeat (first | with_reducible assumption | exact Below.refl _ _ | refine below_drewN ?_ _ | refine Below.drew ?_ | refine Below.alloc ?_ (by first | omega | (simp; done) | (simp; omega)) _ | refine Below.setCell ?_ (by first | omega | (simp; done) | (simp; omega)) _))⟩
  replace hb := hb (by omega)
  go_enter Tryd.func5, Tryd.ntmps5
  go_wp2_with fail
  refine (drawPitCut_any a n c w hc (by omega) hb).mono ?_
  rintro e w1 ⟨bs, g, C, s, rfl, h9, hC, hs1, hs2, hp, hbt⟩
  clear hb
  go_wp2_with fail
  refine (pitCut_any _ _ bs s _ (by omega) hp).mono ?_
  rintro e w2 ⟨rfl, bN⟩
  replace hp := hp.below bN
  replace hbt := hbt.trans (bN.mono hbt.size)
  clear bN
  go_wp2_with fail
  refine (toB (sCut_any _ _ bs s _ (by omega) hp)).mono ?_
  rintro e w2 ⟨rfl, bN⟩
  replace hp := hp.below bN
  replace hbt := hbt.trans (bN.mono hbt.size)
  clear bN
  cases hv : mayF bs s
  · have e1 : cutF bs s = -1 := by simp [cutF, hv]
    rw [e1]
    clear e1
    go_wp2_with fail
    refine (pitMay_any _ _ bs s _ (by omega) hp).mono ?_
    rintro e w2 ⟨rfl, bN⟩
    replace hp := hp.below bN
    replace hbt := hbt.trans (bN.mono hbt.size)
    clear bN
    go_wp2_with fail
    refine (alive_any _ (hpw.below hbt)).mono ?_
    rintro e w2 ⟨rfl, bN⟩
    replace hp := hp.below bN
    replace hbt := hbt.trans (bN.mono hbt.size)
    clear bN
    go_wp2_with fail
    go_ret
    exact ⟨rfl, hbt⟩
  obtain ⟨hok, m, rfl, hm⟩ := setOk_of (mayF_set hv)
  have hl8 := pitOk_len hok
  have e1 := cutF_sum hv
  have e2 : pitWorthF bs (m : Int) = worthS bs m.testBit := by rw [worthF_nat hok hm, worth_sum]
  have e3 := cut_worth bs m.testBit
  have e4 := posSum_range hok
  have e5 := worth_range hok (m : Int)
  rw [e1]
  rw [e2] at e5
  have HW := Lib.hid e2
  have c0 : 0 ≤ cutS bs m.testBit := sumN_nonneg fun i _ => by split; exact cost_nonneg' _; exact pos_nonneg' _
  generalize cutS bs m.testBit = x at e3 c0 ⊢
  generalize worthS bs m.testBit = y at e3 e5 HW
  have HE := Lib.hid e3
  obtain ⟨e4, e6⟩ := e4
  obtain ⟨e5, e7⟩ := e5
  clear e1 e2
  have HP : Hid (posSum bs = sumN (fun i => pos (nth bs i).worth) bs.length) := rfl
  generalize posSum bs = Z at e3 e4 e6 HE HP
  go_wp2_with fail
  go_loopw [6, 7] (fun t i wr => ∃ (k : Nat) (T : Int), k ≤ bs.length ∧ i = .int .i64 k ∧ t = .int .i64 T ∧ 0 ≤ T ∧ T ≤ 20 * k ∧ Hid (T = sumN (fun i => pos (nth bs i).worth) k) ∧ Pit wr (some ⟨g, 0, none⟩) bs ∧ Below w.heap.size w wr) (fun _ i _ => bs.length - (intOf i).toNat)
  case atStart => exact ⟨0, 0, by omega, rfl, rfl, by omega, by omega, rfl, hp, hbt⟩
  case round =>
    clear hp hbt e3
    obtain ⟨k, T, hk, rfl, rfl, ht1, ht2, HR, hp, hbt⟩ := hrel
    by_cases hlt : k < bs.length
    · obtain ⟨b, off, A, C', e0, hbw, h1, h2, h3, h4, h5, h6⟩ := Pit.at hp hlt
      cases e0
      rw [Nat.zero_add] at h1
      obtain ⟨hw1, hw2⟩ := pitOk_worth hok hlt
      clear h2 h3 h4 h5 h6
      go_wp2_with fail
      go_roundw
      case rel => exact ⟨k + 1, T + max (nth bs k).worth 0, by omega, by go_num, rfl, by omega, by omega, by show _ = _; rw [HR.out]; simp [sumN, pos], hp, hbt⟩
      case measure => simp [intOf] <;> omega
    · have hkk : k = bs.length := by omega
      have hT : T = Z := by rw [HR.out, HP.out, hkk]
      have hb : x + y = T := by rw [hT, HE.out]
      have hb2 : (x + y == T) = true := by simpa using hb
      have HB := Lib.hid hb
      clear hT hb hkk
      go_wp2_with fail
      refine (pitWorth_any _ _ bs (m : Int) _ (by omega) hp).mono ?_
      rintro e w2 ⟨rfl, bN⟩
      replace hp := hp.below bN
      replace hbt := hbt.trans (bN.mono hbt.size)
      clear bN
      rw [HW.out]
      go_wp2_with fail
      go_ret
      exact ⟨by simp [HB.out, IntWalk.wrap64_in T ⟨by omega, by omega⟩], hbt⟩
end Go.Proofs.YtnjpifaphmeepaaDoor
