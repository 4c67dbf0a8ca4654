/- The law FnPitBest, walked. -/
import Derived.Test.YtnjpifaphmeepaaDoorLat
import Derived.Test.YtnjpifaphmeepaaDoorW9
namespace Go.Proofs.YtnjpifaphmeepaaDoor
open Go Go.RowKit

set_option maxRecDepth 100000 in
set_option maxHeartbeats 1000000 in
theorem lawPitBest (a : Option Addr) (n c : Nat) (w : World) (hc : n ≤ c) (hn : n ≤ 9223372036854775807) (hb : n ≤ 1048576 → Bytes w a n) (hpw : Pow w) :
    Calls Tryd.prog 12 #[.slice a n c] w fun e w' => e = .returned (.bool true) ∧ Below w.heap.size w w' := by
  by_cases hbig : 1048576 < n
  · go_enter Tryd.func12, Tryd.ntmps12
    go_wp2_with fail
    go_ret
    exact ⟨rfl, (by repeat (first | with_reducible assumption | exact Below.refl _ _ | refine below_drewN ?_ _ | refine Below.drew ?_ | refine Below.alloc ?_ (by first | omega | (simp; done) | (simp; omega)) _ | refine Below.setCell ?_ (by first | omega | (simp; done) | (simp; omega)) _))⟩
  replace hb := hb (by omega)
  go_enter Tryd.func12, Tryd.ntmps12
  go_wp2_with fail
  refine (drawPitBest_any a n c w hc (by omega) hb).mono ?_
  rintro e w1 ⟨bs, g, C, rfl, h9, hC, hp, hbt⟩
  clear hb
  go_wp2_with fail
  refine (pitBest_any _ _ bs _ (by omega) hp).mono ?_
  rintro e w2 ⟨rfl, bN⟩
  replace hp := hp.below bN
  replace hbt := hbt.trans (bN.mono hbt.size)
  clear bN
  go_wp2_with fail
  refine (toB (sBest_any _ _ bs _ (by omega) hp)).mono ?_
  rintro e w2 ⟨rfl, bN⟩
  replace hp := hp.below bN
  replace hbt := hbt.trans (bN.mono hbt.size)
  clear bN
  cases hok : pitOk bs
  · have e1 : bestF bs = -1 := by simp [bestF, hok]
    rw [e1]
    clear e1
    go_wp2_with fail
    refine (pitValid_any _ _ bs _ (by omega) hp).mono ?_
    rintro e w2 ⟨rfl, bN⟩
    replace hp := hp.below bN
    replace hbt := hbt.trans (bN.mono hbt.size)
    clear bN
    go_wp2_with fail
    refine (alive_any _ (hpw.below hbt)).mono ?_
    rintro e w2 ⟨rfl, bN⟩
    replace hp := hp.below bN
    replace hbt := hbt.trans (bN.mono hbt.size)
    clear bN
    go_wp2_with fail
    go_ret
    exact ⟨rfl, hbt⟩
  have hl8 := pitOk_len hok
  obtain ⟨o, e1, ho⟩ := best_is hok
  rw [e1]
  clear e1
  have ho2 : o < 256 := Nat.lt_of_lt_of_le ho.lt (pow_le_of (k := 8) hl8)
  have hP := pow_int hl8
  have hmin : min bs.length 64 = bs.length := by omega
  have h256 := pow_le_of (n := bs.length) (k := 8) hl8
  have HW : Hid (pitWorthF bs (o : Int) = worthOf bs o) := worthF_nat hok ho.lt
  have HMO : Hid (mayF bs (o : Int) = true) := by show _ = _; rw [mayF_nat hok ho.lt]; exact ho.may
  have HL : Hid (∀ q : Nat, q < 2 ^ bs.length → mayF bs (q : Int) = true → pitWorthF bs (q : Int) ≤ worthOf bs o ∧ (pitWorthF bs (q : Int) = worthOf bs o → q &&& o = o)) := fun q hq h1 => by
    rw [mayF_nat hok hq] at h1
    rw [worthF_nat hok hq]
    exact ⟨ho.most q hq h1, fun h2 => best_inter hok ho hq h1 h2⟩
  clear ho
  generalize worthOf bs o = W at HW HL
  obtain ⟨P, hPP⟩ : ∃ P, 2 ^ bs.length = P := ⟨_, rfl⟩
  rw [hPP] at hP h256
  rw [hPP] at HL
  clear hPP
  go_wp2_with fail
  refine (pitWorth_any _ _ bs (o : Int) _ (by omega) hp).mono ?_
  rintro e w2 ⟨rfl, bN⟩
  replace hp := hp.below bN
  replace hbt := hbt.trans (bN.mono hbt.size)
  clear bN
  rw [HW.out]
  go_wp2_with fail
  go_loopw [6] (fun o wr => ∃ (k : Nat), k ≤ P ∧ o = .int .i64 k ∧ Pit wr (some ⟨g, 0, none⟩) bs ∧ Below w.heap.size w wr) (fun o _ => P - (intOf o).toNat)
  case atStart => exact ⟨0, by omega, rfl, hp, hbt⟩
  case round =>
    clear hp hbt
    obtain ⟨k, hk, rfl, hp, hbt⟩ := hrel
    by_cases hlt : k < P
    · go_wp2_with fail
      refine (both_any k o _ (by omega) ho2).mono ?_
      rintro e w2 ⟨rfl, rfl⟩
      go_wp2_with fail
      refine (pitMay_any _ _ bs (k : Int) _ (by omega) hp).mono ?_
      rintro e w2 ⟨rfl, bN⟩
      replace hp := hp.below bN
      replace hbt := hbt.trans (bN.mono hbt.size)
      clear bN
      cases hmk : mayF bs (k : Int)
      · go_wp2_with fail
        go_roundw
        case rel => exact ⟨k + 1, by omega, by go_num, hp, hbt⟩
        case measure => simp [intOf] <;> omega
      · obtain ⟨l1, l2⟩ := HL.out k hlt hmk
        have L2 := Lib.hid l2
        clear l2 hmk
        obtain ⟨V, hV⟩ : ∃ V, pitWorthF bs (k : Int) = V := ⟨_, rfl⟩
        rw [hV] at l1 L2
        have HV := Lib.hid hV
        clear hV
        have n1 : ¬ W < V := by omega
        have n2 : decide (W < V) = false := by simpa using n1
        go_wp2_with fail
        refine (pitWorth_any _ _ bs (k : Int) _ (by omega) hp).mono ?_
        rintro e w2 ⟨rfl, bN⟩
        replace hp := hp.below bN
        replace hbt := hbt.trans (bN.mono hbt.size)
        clear bN
        rw [HV.out]
        by_cases q : V = W
        · have q1 : (V == W) = true := by simpa using q
          have q2 := L2.out q
          have q3 : (((k &&& o : Nat) : Int) != ((o : Nat) : Int)) = false := by simp [q2]
          clear q q2
          go_wp2_with fail
          refine (pitWorth_any _ _ bs (k : Int) _ (by omega) hp).mono ?_
          rintro e w2 ⟨rfl, bN⟩
          replace hp := hp.below bN
          replace hbt := hbt.trans (bN.mono hbt.size)
          clear bN
          rw [HV.out]
          go_wp2_with fail
          go_roundw
          case rel => exact ⟨k + 1, by omega, by go_num, hp, hbt⟩
          case measure => simp [intOf] <;> omega
        · have q1 : (V == W) = false := by simpa using q
          go_wp2_with fail
          refine (pitWorth_any _ _ bs (k : Int) _ (by omega) hp).mono ?_
          rintro e w2 ⟨rfl, bN⟩
          replace hp := hp.below bN
          replace hbt := hbt.trans (bN.mono hbt.size)
          clear bN
          rw [HV.out]
          go_wp2_with fail
          go_roundw
          case rel => exact ⟨k + 1, by omega, by go_num, hp, hbt⟩
          case measure => simp [intOf] <;> omega
    · go_wp2_with fail
      refine (pitMay_any _ _ bs (o : Int) _ (by omega) hp).mono ?_
      rintro e w2 ⟨rfl, bN⟩
      replace hp := hp.below bN
      replace hbt := hbt.trans (bN.mono hbt.size)
      clear bN
      rw [HMO.out]
      go_wp2_with fail
      go_ret
      exact ⟨rfl, hbt⟩
end Go.Proofs.YtnjpifaphmeepaaDoor
