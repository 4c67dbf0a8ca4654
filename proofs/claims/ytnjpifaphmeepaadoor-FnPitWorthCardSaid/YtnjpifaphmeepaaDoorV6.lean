/- The law FnPitWorth, walked. -/
import Derived.Test.YtnjpifaphmeepaaDoorLat
import Derived.Test.YtnjpifaphmeepaaDoorW9
namespace Go.Proofs.YtnjpifaphmeepaaDoor
open Go Go.RowKit

set_option maxRecDepth 100000 in
set_option maxHeartbeats 1000000 in
theorem lawPitWorth (a : Option Addr) (n c : Nat) (w : World) (hc : n ≤ c) (hn : n ≤ 9223372036854775807) (hb : n ≤ 1048576 → Bytes w a n) (hpw : Pow w) :
    Calls Tryd.prog 14 #[.slice a n c] w fun e w' => e = .returned (.bool true) ∧ Below w.heap.size w w' := by
  by_cases hbig : 1048576 < n
  · go_enter Tryd.func14, Tryd.ntmps14
    go_wp2_with fail
    go_ret
    exact ⟨rfl, (by repeat (first | with_reducible assumption | exact Below.refl _ _ | refine below_drewN ?_ _ | refine Below.drew ?_ | refine Below.alloc ?_ (by first | omega | (simp; done) | (simp; omega)) _ | refine Below.setCell ?_ (by first | omega | (simp; done) | (simp; omega)) _))⟩
  replace hb := hb (by omega)
  go_enter Tryd.func14, Tryd.ntmps14
  go_wp2_with fail
  refine (drawPitWorth_any a n c w hc (by omega) hb).mono ?_
  rintro e w1 ⟨bs, g, C, s, rfl, h9, hC, hs1, hs2, hp, hbt⟩
  clear hb
  go_wp2_with fail
  refine (pitWorth_any _ _ bs s _ (by omega) hp).mono ?_
  rintro e w2 ⟨rfl, bN⟩
  replace hp := hp.below bN
  replace hbt := hbt.trans (bN.mono hbt.size)
  clear bN
  go_wp2_with fail
  refine (toB (sWorth_any _ _ bs s _ (by omega) hp)).mono ?_
  rintro e w2 ⟨rfl, bN⟩
  replace hp := hp.below bN
  replace hbt := hbt.trans (bN.mono hbt.size)
  clear bN
  cases hok : pitOk bs
  · have e1 : pitWorthF bs s = 0 := by simp [pitWorthF, setOk, hok]
    rw [e1]
    clear e1
    go_wp2_with fail
    refine (toB (spitValid_any _ _ bs _ (by omega) hp)).mono ?_
    rintro e w2 ⟨rfl, bN⟩
    replace hp := hp.below bN
    replace hbt := hbt.trans (bN.mono hbt.size)
    clear bN
    go_wp2_with fail
    refine (alive_any _ (hpw.below hbt)).mono ?_
    rintro e w2 ⟨rfl, bN⟩
    replace hp := hp.below bN
    replace hbt := hbt.trans (bN.mono hbt.size)
    clear bN
    go_wp2_with fail
    go_ret
    exact ⟨rfl, hbt⟩
  have hl8 := pitOk_len hok
  have hP := pow_int hl8
  have hmin : min bs.length 64 = bs.length := by omega
  have h256 := pow_le_of (n := bs.length) (k := 8) hl8
  by_cases s0 : s < 0
  · have e1 : pitWorthF bs s = 0 := by
      have : setOk bs s = false := by simp [setOk, hok]; omega
      simp [pitWorthF, this]
    have s1 : decide (s < 0) = true := by simpa using s0
    rw [e1]
    clear e1
    go_wp2_with fail
    refine (toB (spitValid_any _ _ bs _ (by omega) hp)).mono ?_
    rintro e w2 ⟨rfl, bN⟩
    replace hp := hp.below bN
    replace hbt := hbt.trans (bN.mono hbt.size)
    clear bN
    go_wp2_with fail
    refine (alive_any _ (hpw.below hbt)).mono ?_
    rintro e w2 ⟨rfl, bN⟩
    replace hp := hp.below bN
    replace hbt := hbt.trans (bN.mono hbt.size)
    clear bN
    go_wp2_with fail
    go_ret
    exact ⟨rfl, hbt⟩
  have s1 : decide (s < 0) = false := by simpa using s0
  by_cases s2 : ((2 ^ bs.length : Nat) : Int) ≤ s
  · have e1 : pitWorthF bs s = 0 := by
      have : setOk bs s = false := by simp [setOk, hok]; rw [nat_pow_int]; omega
      simp [pitWorthF, this]
    have s3 : decide (((2 ^ bs.length : Nat) : Int) ≤ s) = true := by simpa using s2
    rw [e1]
    clear e1
    generalize (2 ^ bs.length : Nat) = P at *
    go_wp2_with fail
    refine (toB (spitValid_any _ _ bs _ (by omega) hp)).mono ?_
    rintro e w2 ⟨rfl, bN⟩
    replace hp := hp.below bN
    replace hbt := hbt.trans (bN.mono hbt.size)
    clear bN
    go_wp2_with fail
    refine (alive_any _ (hpw.below hbt)).mono ?_
    rintro e w2 ⟨rfl, bN⟩
    replace hp := hp.below bN
    replace hbt := hbt.trans (bN.mono hbt.size)
    clear bN
    go_wp2_with fail
    go_ret
    exact ⟨rfl, hbt⟩
  have s3 : decide (((2 ^ bs.length : Nat) : Int) ≤ s) = false := by simpa using s2
  obtain ⟨m, rfl⟩ : ∃ m : Nat, s = (m : Int) := ⟨s.toNat, by omega⟩
  have hm : m < 2 ^ bs.length := by omega
  obtain ⟨o, e1, ho⟩ := best_is hok
  have HE := Lib.hid e1
  have ho2 : o < 256 := Nat.lt_of_lt_of_le ho.lt (pow_le_of (k := 8) hl8)
  have hm2 : m < 256 := by omega
  have HLE : Hid (mayF bs (m : Int) = true → pitWorthF bs (m : Int) ≤ mostF bs) := fun h => by
    rw [mayF_nat hok hm] at h
    rw [worthF_nat hok hm, mostF_best hok ho]; exact ho.most m hm h
  have HSUM : Hid (pitWorthF bs ((m &&& o : Nat) : Int) + pitWorthF bs ((m ||| o : Nat) : Int) = pitWorthF bs (m : Int) + pitWorthF bs (o : Int)) := by
    show _ = _
    rw [worthF_nat hok (Nat.and_lt_two_pow _ ho.lt), worthF_nat hok (Nat.or_lt_two_pow hm ho.lt), worthF_nat hok hm, worthF_nat hok ho.lt]
    exact worth_modular bs m o
  have r1 := worth_range hok (m : Int)
  have r2 := worth_range hok (o : Int)
  have r3 := worth_range hok ((m &&& o : Nat) : Int)
  have r4 := worth_range hok ((m ||| o : Nat) : Int)
  obtain ⟨v1, hv1⟩ : ∃ v, pitWorthF bs (m : Int) = v := ⟨_, rfl⟩
  obtain ⟨v2, hv2⟩ : ∃ v, pitWorthF bs (o : Int) = v := ⟨_, rfl⟩
  obtain ⟨v3, hv3⟩ : ∃ v, pitWorthF bs ((m &&& o : Nat) : Int) = v := ⟨_, rfl⟩
  obtain ⟨v4, hv4⟩ : ∃ v, pitWorthF bs ((m ||| o : Nat) : Int) = v := ⟨_, rfl⟩
  rw [hv1] at r1 HLE HSUM ⊢
  rw [hv2] at r2 HSUM
  rw [hv3] at r3 HSUM
  rw [hv4] at r4 HSUM
  have H2 := Lib.hid hv2
  have H3 := Lib.hid hv3
  have H4 := Lib.hid hv4
  obtain ⟨r11, r12⟩ := r1
  obtain ⟨r21, r22⟩ := r2
  obtain ⟨r31, r32⟩ := r3
  obtain ⟨r41, r42⟩ := r4
  have hs12 : (v3 + v4 == v1 + v2) = true := by simpa using HSUM.out
  clear e1 ho hv1 hv2 hv3 hv4 s2 s3
  generalize (2 ^ bs.length : Nat) = P at *
  have s3 : decide (P ≤ m) = false := by simpa using hm
  go_wp2_with fail
  refine (toB (spitValid_any _ _ bs _ (by omega) hp)).mono ?_
  rintro e w2 ⟨rfl, bN⟩
  replace hp := hp.below bN
  replace hbt := hbt.trans (bN.mono hbt.size)
  clear bN
  go_wp2_with fail
  refine (pitBest_any _ _ bs _ (by omega) hp).mono ?_
  rintro e w2 ⟨rfl, bN⟩
  replace hp := hp.below bN
  replace hbt := hbt.trans (bN.mono hbt.size)
  clear bN
  rw [HE.out]
  go_wp2_with fail
  refine (both_any m o _ hm2 ho2).mono ?_
  rintro e w2 ⟨rfl, rfl⟩
  go_wp2_with fail
  refine (pitMay_any _ _ bs (m : Int) _ (by omega) hp).mono ?_
  rintro e w2 ⟨rfl, bN⟩
  replace hp := hp.below bN
  replace hbt := hbt.trans (bN.mono hbt.size)
  clear bN
  cases hmay : mayF bs (m : Int)
  · go_wp2_with fail
    refine (pitWorth_any _ _ bs ((m &&& o : Nat) : Int) _ (by omega) hp).mono ?_
    rintro e w2 ⟨rfl, bN⟩
    replace hp := hp.below bN
    replace hbt := hbt.trans (bN.mono hbt.size)
    clear bN
    rw [H3.out]
    go_wp2_with fail
    refine (pitWorth_any _ _ bs ((m ||| o : Nat) : Int) _ (by omega) hp).mono ?_
    rintro e w2 ⟨rfl, bN⟩
    replace hp := hp.below bN
    replace hbt := hbt.trans (bN.mono hbt.size)
    clear bN
    rw [H4.out]
    go_wp2_with fail
    refine (pitWorth_any _ _ bs (o : Int) _ (by omega) hp).mono ?_
    rintro e w2 ⟨rfl, bN⟩
    replace hp := hp.below bN
    replace hbt := hbt.trans (bN.mono hbt.size)
    clear bN
    rw [H2.out]
    go_wp2_with fail
    go_ret
    exact ⟨rfl, hbt⟩
  · have hle := HLE.out hmay
    have hle2 : decide (v1 ≤ mostF bs) = true := by simpa using hle
    clear hmay
    obtain ⟨Y, hY⟩ : ∃ Y, mostF bs = Y := ⟨_, rfl⟩
    rw [hY] at hle hle2
    have HY := Lib.hid hY
    clear hY
    go_wp2_with fail
    refine (pitMost_any _ _ bs _ (by omega) hp).mono ?_
    rintro e w2 ⟨rfl, bN⟩
    replace hp := hp.below bN
    replace hbt := hbt.trans (bN.mono hbt.size)
    clear bN
    rw [HY.out]
    go_wp2_with fail
    refine (pitWorth_any _ _ bs ((m &&& o : Nat) : Int) _ (by omega) hp).mono ?_
    rintro e w2 ⟨rfl, bN⟩
    replace hp := hp.below bN
    replace hbt := hbt.trans (bN.mono hbt.size)
    clear bN
    rw [H3.out]
    go_wp2_with fail
    refine (pitWorth_any _ _ bs ((m ||| o : Nat) : Int) _ (by omega) hp).mono ?_
    rintro e w2 ⟨rfl, bN⟩
    replace hp := hp.below bN
    replace hbt := hbt.trans (bN.mono hbt.size)
    clear bN
    rw [H4.out]
    go_wp2_with fail
    refine (pitWorth_any _ _ bs (o : Int) _ (by omega) hp).mono ?_
    rintro e w2 ⟨rfl, bN⟩
    replace hp := hp.below bN
    replace hbt := hbt.trans (bN.mono hbt.size)
    clear bN
    rw [H2.out]
    go_wp2_with fail
    go_ret
    exact ⟨rfl, hbt⟩
end Go.Proofs.YtnjpifaphmeepaaDoor
