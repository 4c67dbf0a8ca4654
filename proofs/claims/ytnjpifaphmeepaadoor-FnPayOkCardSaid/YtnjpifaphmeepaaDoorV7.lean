/- The law FnPayMost, walked. -/
import Derived.Test.YtnjpifaphmeepaaDoorLat
import Derived.Test.YtnjpifaphmeepaaDoorW10
import Derived.Test.YtnjpifaphmeepaaDoorS6
import Derived.Test.YtnjpifaphmeepaaDoorW9
namespace Go.Proofs.YtnjpifaphmeepaaDoor
open Go Go.RowKit

theorem payMostF_eq {bs : List Blk} (hp : pitOk bs = true) : payMostF bs = cutF bs (bestF bs) ∧ payMostF bs + mostF bs = posSum bs ∧ 0 ≤ payMostF bs ∧ payMostF bs ≤ 160 ∧ -160 ≤ mostF bs ∧ mostF bs ≤ 160 := by
  obtain ⟨m, e, hm⟩ := best_is hp
  have h1 : payMostF bs = cutS bs m.testBit := by unfold payMostF; rw [if_pos hp, e, Int.toNat_natCast]
  have h2 : cutF bs (bestF bs) = cutS bs m.testBit := by rw [e]; exact cutF_sum (by rw [mayF_nat hp hm.lt]; exact hm.may)
  have h3 := mostF_best hp hm
  rw [worth_sum] at h3
  have h4 := cut_worth bs m.testBit
  have h5 := posSum_range hp
  have h6 : 0 ≤ cutS bs m.testBit := sumN_nonneg fun i _ => by split; exact cost_nonneg' _; exact pos_nonneg' _
  have h7 := worth_range hp (m : Int)
  rw [worthF_nat hp hm.lt, worth_sum] at h7
  have h8 : cutS bs m.testBit ≤ 160 := by
    have hl := pitOk_len hp
    have : cutS bs m.testBit ≤ 20 * bs.length := sumN_le_const fun i hi => by
      have := pitOk_worth hp hi
      split
      · exact (cost_range this.1).2
      · exact (pos_range this.2).2
    omega
  exact ⟨by rw [h1, h2], by omega, by omega, by omega, by omega, by omega⟩

set_option maxRecDepth 100000 in
set_option maxHeartbeats 1000000 in
theorem lawPayMost (a : Option Addr) (n c : Nat) (w : World) (hc : n ≤ c) (hn : n ≤ 9223372036854775807) (hb : n ≤ 1048576 → Bytes w a n) (hpw : Pow w) :
    Calls Tryd.prog 16 #[.slice a n c] w fun e w' => e = .returned (.bool true) ∧ Below w.heap.size w w' := by
  by_cases hbig : 1048576 < n
  · go_enter Tryd.func16, Tryd.ntmps16
    go_wp2_with fail
    go_ret
    exact ⟨rfl, (by repeat (first | with_reducible assumption | exact Below.refl _ _ | refine below_drewN ?_ _ | refine Below.drew ?_ | refine Below.alloc ?_ (by first | omega | (simp; done) | (simp; omega)) _ | refine Below.setCell ?_ (by first | omega | (simp; done) | (simp; omega)) _))⟩
  replace hb := hb (by omega)
  go_enter Tryd.func16, Tryd.ntmps16
  go_wp2_with fail
  refine (drawPayMost_any a n c w hc (by omega) hb).mono ?_
  rintro e w1 ⟨bs, g, C, rfl, h9, hC, hp, hbt⟩
  clear hb
  go_wp2_with fail
  refine (payMost_any _ _ bs _ (by omega) hp).mono ?_
  rintro e w2 ⟨rfl, bN⟩
  replace hp := hp.below bN
  replace hbt := hbt.trans (bN.mono hbt.size)
  clear bN
  go_wp2_with fail
  refine (sPayMost_any _ _ bs _ (by omega) hp).mono ?_
  rintro e w2 ⟨rfl, bN⟩
  replace hp := hp.below bN
  replace hbt := hbt.trans (bN.mono hbt.size)
  clear bN
  cases hok : pitOk bs
  · have e1 : payMostF bs = -1 := by simp [payMostF, hok]
    rw [e1]
    clear e1
    go_wp2_with fail
    refine (alive_any _ (hpw.below hbt)).mono ?_
    rintro e w2 ⟨rfl, bN⟩
    replace hp := hp.below bN
    replace hbt := hbt.trans (bN.mono hbt.size)
    clear bN
    go_wp2_with fail
    go_ret
    exact ⟨rfl, hbt⟩
  obtain ⟨e1, e2, e3, e4, e5, e6⟩ := payMostF_eq hok
  have hZ := posSum_range hok
  obtain ⟨x, hx⟩ : ∃ x, payMostF bs = x := ⟨_, rfl⟩
  obtain ⟨y, hy⟩ : ∃ y, mostF bs = y := ⟨_, rfl⟩
  rw [hx] at e1 e2 e3 e4 ⊢
  rw [hy] at e2 e5 e6
  have HP : Hid (posSum bs = sumN (fun i => pos (nth bs i).worth) bs.length) := rfl
  generalize posSum bs = Z at e2 hZ HP
  have H1 := Lib.hid e1
  have H2 := Lib.hid e2
  have HY := Lib.hid hy
  clear e1 e2 hx hy
  go_wp2_with fail
  go_loopw [5, 6] (fun t i wr => ∃ (k : Nat) (T : Int), k ≤ bs.length ∧ i = .int .i64 k ∧ t = .int .i64 T ∧ 0 ≤ T ∧ T ≤ 20 * k ∧ Hid (T = sumN (fun i => pos (nth bs i).worth) k) ∧ Pit wr (some ⟨g, 0, none⟩) bs ∧ Below w.heap.size w wr) (fun _ i _ => bs.length - (intOf i).toNat)
  case atStart => exact ⟨0, 0, by omega, rfl, rfl, by omega, by omega, rfl, hp, hbt⟩
  case round =>
    clear hp hbt
    obtain ⟨k, T, hk, rfl, rfl, ht1, ht2, HR, hp, hbt⟩ := hrel
    by_cases hlt : k < bs.length
    · obtain ⟨b, off, A, C', e0, hbw, h1, h2, h3, h4, h5, h6⟩ := Pit.at hp hlt
      cases e0
      rw [Nat.zero_add] at h1
      obtain ⟨hw1, hw2⟩ := pitOk_worth hok hlt
      clear h2 h3 h4 h5 h6
      have hl8 := pitOk_len hok
      go_wp2_with fail
      go_roundw
      case rel => exact ⟨k + 1, T + max (nth bs k).worth 0, by omega, by go_num, rfl, by omega, by omega, by show _ = _; rw [HR.out]; simp [sumN, pos], hp, hbt⟩
      case measure => simp [intOf] <;> omega
    · have hkk : k = bs.length := by omega
      have hT : T = Z := by rw [HR.out, HP.out, hkk]
      have hb : x + y = T := by rw [hT]; exact H2.out
      have hb2 : (x + y == T) = true := by simpa using hb
      have hb1 : (x == x) = true := by simp
      clear hT hb hkk
      go_wp2_with fail
      refine (pitBest_any _ _ bs _ (by omega) hp).mono ?_
      rintro e w2 ⟨rfl, bN⟩
      replace hp := hp.below bN
      replace hbt := hbt.trans (bN.mono hbt.size)
      clear bN
      go_wp2_with fail
      refine (pitCut_any _ _ bs (bestF bs) _ (by omega) hp).mono ?_
      rintro e w2 ⟨rfl, bN⟩
      replace hp := hp.below bN
      replace hbt := hbt.trans (bN.mono hbt.size)
      clear bN
      rw [← H1.out]
      go_wp2_with fail
      refine (pitMost_any _ _ bs _ (by omega) hp).mono ?_
      rintro e w2 ⟨rfl, bN⟩
      replace hp := hp.below bN
      replace hbt := hbt.trans (bN.mono hbt.size)
      clear bN
      rw [HY.out]
      go_wp2_with fail
      go_ret
      exact ⟨rfl, hbt⟩
end Go.Proofs.YtnjpifaphmeepaaDoor
