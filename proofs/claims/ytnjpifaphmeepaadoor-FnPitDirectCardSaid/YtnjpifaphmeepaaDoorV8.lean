/- The law FnPitFull, walked. -/
import Derived.Test.YtnjpifaphmeepaaDoorLat
import Derived.Test.YtnjpifaphmeepaaDoorW10
import Derived.Test.YtnjpifaphmeepaaDoorSame
namespace Go.Proofs.YtnjpifaphmeepaaDoor
open Go Go.RowKit

/-- a made pit -/
def PitOut (F : List Blk) (w : World) (e : Ending) (w' : World) : Prop := ∃ a C, e = .returned (.slice a F.length C) ∧ F.length ≤ C ∧ Pit w' a F ∧ Below w.heap.size w w'
theorem FullOut.out {bs : List Blk} {w : World} {e : Ending} {w' : World} (h : FullOut bs w e w') : PitOut (fullF bs) w e w' := by
  obtain ⟨g, C, h1, h2, h3, h4⟩ := h; exact ⟨_, C, h1, h2, h3, h4⟩
theorem pitFull_all (a : Option Addr) (c : Nat) (bs : List Blk) (w : World) (hl : bs.length ≤ 1048576) (hs : Pit w a bs) : Calls Tryd.prog 37 #[.slice a bs.length c] w (PitOut (fullF bs) w) := by
  cases hp : pitOk bs
  · have HE : Hid (fullF bs = []) := by show _ = _; simp [fullF, hp]
    go_enter Tryd.func37, Tryd.ntmps37
    go_wp2_with (go_at_call 18; refine (pitValid_any _ _ _ _ hl hs).mono ?_; rintro e w' ⟨rfl, hb⟩)
    go_ret
    exact ⟨none, 0, by rw [HE.out]; rfl, by rw [HE.out]; simp, by rw [HE.out]; exact .inl rfl, hb⟩
  · exact (pitFull_any a c bs w hs hp).mono fun _ _ h => h.out
theorem sFull_all (a : Option Addr) (c : Nat) (bs : List Blk) (w : World) (hl : bs.length ≤ 1048576) (hs : Pit w a bs) : Calls Tryd.prog 39 #[.slice a bs.length c] w (PitOut (fullF bs) w) :=
  (sFull_any a c bs w hl hs).mono fun _ _ h => h.out
theorem fullF_len (bs : List Blk) (h : bs.length ≤ 9) : (fullF bs).length ≤ 9 := by
  unfold fullF; split
  · rw [fullN_len]; exact h
  · simp
theorem fullF_ok {bs : List Blk} (hp : pitOk bs = true) : pitOk (fullF bs) = true ∧ (fullF bs).length = bs.length := by
  unfold fullF; rw [if_pos hp]; exact ⟨fullN_ok hp, fullN_len _ _⟩
theorem full_setOk {bs : List Blk} (hp : pitOk bs = true) (s : Int) : setOk (fullF bs) s = setOk bs s := by
  obtain ⟨h1, h2⟩ := fullF_ok hp
  unfold setOk; rw [h1, h2, hp]
theorem full_mayF {bs : List Blk} (hp : pitOk bs = true) (s : Int) : mayF (fullF bs) s = mayF bs s := by
  unfold mayF
  rw [full_setOk hp]
  cases hv : setOk bs s
  · rfl
  · obtain ⟨_, m, rfl, hm⟩ := setOk_of hv
    simp only [Bool.true_and, Int.toNat_natCast]
    rw [Bool.eq_iff_iff, may_closed (fullF_ok hp).1, may_closed hp]
    unfold fullF; rw [if_pos hp]; exact full_closed hp _
theorem full_worthF {bs : List Blk} (hp : pitOk bs = true) (s : Int) : pitWorthF (fullF bs) s = pitWorthF bs s := by
  unfold pitWorthF
  rw [full_setOk hp]
  cases hv : setOk bs s
  · rfl
  · rw [if_pos rfl, if_pos rfl, worth_sum, worth_sum]; unfold fullF; rw [if_pos hp]; exact full_worthS bs _

set_option maxRecDepth 100000 in
set_option maxHeartbeats 1000000 in
theorem lawPitFull (a : Option Addr) (n c : Nat) (w : World) (hc : n ≤ c) (hn : n ≤ 9223372036854775807) (hb : n ≤ 1048576 → Bytes w a n) (hpw : Pow w) :
    Calls Tryd.prog 7 #[.slice a n c] w fun e w' => e = .returned (.bool true) ∧ Below w.heap.size w w' := by
  by_cases hbig : 1048576 < n
  · go_enter Tryd.func7, Tryd.ntmps7
    go_wp2_with fail
    go_ret
    exact ⟨rfl, (by repeat (first | with_reducible assumption | exact Below.refl _ _ | refine below_drewN ?_ _ | refine Below.drew ?_ | refine Below.alloc ?_ (by first | omega | (simp; done) | (simp; omega)) _ | refine Below.setCell ?_ (by first | omega | (simp; done) | (simp; omega)) _))⟩
  replace hb := hb (by omega)
  go_enter Tryd.func7, Tryd.ntmps7
  go_wp2_with fail
  refine (drawPitFull_any a n c w hc (by omega) hb).mono ?_
  rintro e w1 ⟨bs, g, C, rfl, h9, hC, hp, hbt⟩
  clear hb
  have hF9 := fullF_len bs h9
  go_wp2_with fail
  refine (pitFull_all _ _ bs _ (by omega) hp).mono ?_
  rintro e w2 ⟨aF, CF, rfl, hCF, hpF, bN⟩
  replace hp := hp.below bN
  replace hbt := hbt.trans (bN.mono hbt.size)
  clear bN
  go_wp2_with fail
  refine (sFull_all _ _ bs _ (by omega) hp).mono ?_
  rintro e w2 ⟨aS, CS, rfl, hCS, hpS, bN⟩
  replace hp := hp.below bN
  replace hpF := hpF.below bN
  replace hbt := hbt.trans (bN.mono hbt.size)
  clear bN
  have hd : decide (fullF bs = fullF bs) = true := by simp
  go_wp2_with fail
  refine (toB (samePit_any _ _ _ _ _ _ _ (by omega) (by omega) hpF hpS)).mono ?_
  rintro e w2 ⟨rfl, bN⟩
  replace hp := hp.below bN
  replace hpF := hpF.below bN
  replace hbt := hbt.trans (bN.mono hbt.size)
  clear bN hpS hCS
  cases hok : pitOk bs
  · have hlen : (fullF bs).length = 0 := by simp [fullF, hok]
    generalize fullF bs = F at *
    go_wp2_with fail
    refine (toB (spitValid_any _ _ bs _ (by omega) hp)).mono ?_
    rintro e w2 ⟨rfl, bN⟩
    replace hp := hp.below bN
    replace hbt := hbt.trans (bN.mono hbt.size)
    clear bN
    go_wp2_with fail
    refine (alive_any _ (hpw.below hbt)).mono ?_
    rintro e w2 ⟨rfl, bN⟩
    replace hp := hp.below bN
    replace hbt := hbt.trans (bN.mono hbt.size)
    clear bN
    go_wp2_with fail
    go_ret
    exact ⟨rfl, hbt⟩
  have hl8 := pitOk_len hok
  have hP := pow_int hl8
  have hmin : min bs.length 64 = bs.length := by omega
  have h256 := pow_le_of (n := bs.length) (k := 8) hl8
  have HM : Hid (∀ s, mayF (fullF bs) s = mayF bs s) := full_mayF hok
  have HW : Hid (∀ s, pitWorthF (fullF bs) s = pitWorthF bs s) := full_worthF hok
  have HV : Hid (pitOk (fullF bs) = true) := (fullF_ok hok).1
  clear hd
  generalize fullF bs = F at hF9 hCF hpF HM HW HV
  obtain ⟨P, hPP⟩ : ∃ P, 2 ^ bs.length = P := ⟨_, rfl⟩
  rw [hPP] at hP h256
  clear hPP
  go_wp2_with fail
  refine (toB (spitValid_any _ _ bs _ (by omega) hp)).mono ?_
  rintro e w2 ⟨rfl, bN⟩
  replace hp := hp.below bN
  replace hpF := hpF.below bN
  replace hbt := hbt.trans (bN.mono hbt.size)
  clear bN
  go_wp2_with fail
  go_loopw [5] (fun o wr => ∃ (k : Nat), k ≤ P ∧ o = .int .i64 k ∧ Pit wr (some ⟨g, 0, none⟩) bs ∧ Pit wr aF F ∧ Below w.heap.size w wr) (fun o _ => P - (intOf o).toNat)
  case atStart => exact ⟨0, by omega, rfl, hp, hpF, hbt⟩
  case round =>
    clear hp hpF hbt
    obtain ⟨k, hk, rfl, hp, hpF, hbt⟩ := hrel
    by_cases hlt : k < P
    · have q1 : (mayF bs (k : Int) != mayF bs (k : Int)) = false := by simp
      have q2 : (pitWorthF bs (k : Int) != pitWorthF bs (k : Int)) = false := by simp
      go_wp2_with fail
      refine (pitMay_any _ _ bs (k : Int) _ (by omega) hp).mono ?_
      rintro e w2 ⟨rfl, bN⟩
      replace hp := hp.below bN
      replace hpF := hpF.below bN
      replace hbt := hbt.trans (bN.mono hbt.size)
      clear bN
      go_wp2_with fail
      refine (pitMay_any _ _ F (k : Int) _ (by omega) hpF).mono ?_
      rintro e w2 ⟨rfl, bN⟩
      rw [HM.out]
      replace hp := hp.below bN
      replace hpF := hpF.below bN
      replace hbt := hbt.trans (bN.mono hbt.size)
      clear bN
      go_wp2_with fail
      refine (pitWorth_any _ _ bs (k : Int) _ (by omega) hp).mono ?_
      rintro e w2 ⟨rfl, bN⟩
      replace hp := hp.below bN
      replace hpF := hpF.below bN
      replace hbt := hbt.trans (bN.mono hbt.size)
      clear bN
      go_wp2_with fail
      refine (pitWorth_any _ _ F (k : Int) _ (by omega) hpF).mono ?_
      rintro e w2 ⟨rfl, bN⟩
      rw [HW.out]
      replace hp := hp.below bN
      replace hpF := hpF.below bN
      replace hbt := hbt.trans (bN.mono hbt.size)
      clear bN
      go_wp2_with fail
      go_roundw
      case rel => exact ⟨k + 1, by omega, by go_num, hp, hpF, hbt⟩
      case measure => simp [intOf] <;> omega
    · go_wp2_with fail
      refine (pitValid_any _ _ F _ (by omega) hpF).mono ?_
      rintro e w2 ⟨rfl, bN⟩
      rw [HV.out]
      replace hbt := hbt.trans (bN.mono hbt.size)
      clear bN
      go_wp2_with fail
      go_ret
      exact ⟨rfl, hbt⟩
end Go.Proofs.YtnjpifaphmeepaaDoor
