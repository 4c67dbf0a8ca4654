/- Walks over the reference: spec.PayOk, spec.PaySum. -/
import Derived.Test.YtnjpifaphmeepaaDoorS1
import Derived.Test.YtnjpifaphmeepaaDoorW6
import Derived.StillTailTactics
namespace Go.Proofs.YtnjpifaphmeepaaDoor
open Go Go.RowKit

set_option maxRecDepth 100000 in
set_option maxHeartbeats 2000000 in
theorem spayOk_any (a1 a2 : Option Addr) (c1 c2 : Nat) (bs : List Blk) (pay : List (List Int)) (w : World) (hl : bs.length ≤ 1048576) (hl2 : pay.length ≤ 1048576) (hs : Pit w a1 bs) (ht : Tab w a2 pay) :
    Calls Tryd.prog 45 #[.slice a1 bs.length c1, .slice a2 pay.length c2] w fun e w' => e = .returned (.bool (payOkS bs pay)) ∧ Below w.heap.size w w' := by
  cases hp : pitOk bs
  · go_enter Tryd.func45, Tryd.ntmps45
    go_wp2_with (go_at_call 19; refine (spitValid_any _ _ _ _ hl hs).mono ?_; rintro e w' ⟨rfl, q0, rfl⟩)
    go_ret
    exact ⟨by simp [payOkS, hp], (by repeat (first | with_reducible assumption | exact Below.refl _ _ | refine below_drewN ?_ _ | refine Below.drew ?_ | refine Below.alloc ?_ (by first | omega | (simp; done) | (simp; omega)) _ | refine Below.setCell ?_ (by first | omega | (simp; done) | (simp; omega)) _))⟩
  have hl8 := pitOk_len hp
  by_cases hn : pay.length = bs.length
  · have hne : ((pay.length : Int) != (bs.length : Int)) = false := by simp [hn]
    have HN := Lib.hid hn
    have hmk := mkInts bs.length (by omega)
    have hl9 : pay.length ≤ 8 := by omega
    clear hn
    go_enter Tryd.func45, Tryd.ntmps45
    go_wp2_with (go_at_call 19; refine (spitValid_any _ _ _ _ hl hs).mono ?_; rintro e w1 ⟨rfl, q0, rfl⟩)
    clear hmk
    go_loopw [6] (fun i wr => ∃ (k : Nat) (G : Nat → Int), k ≤ bs.length ∧ i = .int .i64 k ∧ OwnI wr w.heap.size bs.length G ∧ (∀ q, 0 ≤ G q ∧ G q ≤ 20 * k) ∧ Hid (payOkS bs pay = payS bs k (pay.drop k) G) ∧ Below w.heap.size w wr) (fun i _ => bs.length - (intOf i).toNat)
    case atStart => exact ⟨0, fun _ => 0, by omega, rfl, OwnI.made (w.drewN q0) _, fun q => by simp, by simp [Hid, payOkS, hp, HN.out], (by repeat (first | with_reducible assumption | exact Below.refl _ _ | refine below_drewN ?_ _ | refine Below.drew ?_ | refine Below.alloc ?_ (by first | omega | (simp; done) | (simp; omega)) _ | refine Below.setCell ?_ (by first | omega | (simp; done) | (simp; omega)) _))⟩
    case round =>
      obtain ⟨k, G, hk, rfl, ho, hG, HR, hb⟩ := hrel
      by_cases hkb : k < bs.length
      · have hlt : k < pay.length := by have := HN.out; omega
        obtain ⟨b, off, A, C, rfl, hbw, d1, d2, d3, d4, d5⟩ := Tab.at ht hlt
        obtain ⟨b', off', A', C', rfl, hbw', e1, e2, e3, e4, e5, e6⟩ := Pit.at hs hkb
        have d1w := d1
        have e1w := e1
        rw [← hb.cell (p := ⟨b, _, none⟩) hbw] at d1
        have hd := drop_nth hlt
        have HD := Lib.hid hd
        clear hd
        obtain ⟨hw1, hw2⟩ := pitOk_worth hp hkb
        by_cases hlen : (nth pay k).length = bs.length
        · have hne2 : (((nth pay k).length : Int) != (bs.length : Int)) = false := by simp [hlen]
          have HL := Lib.hid hlen
          clear hlen
          go_wp2_with fail
          obtain ⟨hp1, hp2⟩ := pos_range hw2
          unfold pos at hp1 hp2
          clear hne2 hne d1
          go_loopw [7, 8] (fun paid jj wi => ∃ (j : Nat) (L : Int) (G' : Nat → Int), j ≤ bs.length ∧ jj = .int .i64 j ∧ paid = .int .i64 L ∧ 0 ≤ L ∧ L ≤ 20 * j ∧ OwnI wi w.heap.size bs.length G' ∧ (∀ q, 0 ≤ G' q ∧ G' q ≤ 20 * k + 20) ∧ (∀ q, j ≤ q → G' q ≤ 20 * k) ∧ Hid (payOkS bs pay = (rowS (nth bs k).needs j ((nth pay k).drop j) L G').elim false (fun r => if pos (nth bs k).worth < r.1 then false else payS bs (k + 1) (pay.drop (k + 1)) r.2)) ∧ Below w.heap.size w wi) (fun _ jj _ => bs.length - (intOf jj).toNat)
          case atStart => exact ⟨0, _, G, by omega, rfl, rfl, by omega, by omega, ho, fun q => by have := hG q; omega, fun q _ => by have := hG q; omega, by show _ = _; rw [HR.out, HD.out]; simp [payS, HL.out], hb⟩
          case round =>
            obtain ⟨j, L, G', hj, rfl, rfl, hL0, hL1, ho, hG1, hG2, HI, hb⟩ := hrel
            rw [← hb.cell (p := ⟨b, _, none⟩) hbw] at d1w
            rw [← hb.cell (p := ⟨b', _, none⟩) hbw'] at e1w
            rw [← hb.cell (p := ⟨b', _, none⟩) hbw'] at e2
            by_cases hlt2 : j < bs.length
            · have hjb : j < (nth pay k).length := by have := HL.out; omega
              obtain ⟨b3, off3, rfl, hbw3, hc⟩ := Ints.at d5 hjb
              have f1 := hc j hjb
              rw [← hb.cell (p := ⟨b3, _, none⟩) hbw3] at f1
              have hd := drop_nth hjb
              have HD2 := Lib.hid hd
              clear hd hc
              have g1 := ho.cell hlt2
              have g2 := ho.frozen j
              have hg1 := hG1 j
              have hg2 := hG2 j (Nat.le_refl _)
              obtain ⟨x, hx⟩ : ∃ x, x = nth (nth pay k) j := ⟨_, rfl⟩
              rw [← hx] at f1
              have HX := Lib.hid hx
              clear hx
              cases hin : sIn x 0 20
              · have HI2 := Lib.hid hin
                go_wp2_with (go_at_call 68; refine (l1In_any _ _ _ _).mono ?_; rintro e w' ⟨rfl, rfl⟩)
                go_ret
                exact ⟨by have h := HI2.out; rw [HI.out, HD2.out, ← HX.out]; simp only [rowS]; rw [if_pos (by left; simp [sIn] at h; omega)]; rfl, hb⟩
              have hin' := hin
              simp only [sIn, Bool.and_eq_true, decide_eq_true_eq] at hin'
              obtain ⟨hx0, hx20⟩ := hin'
              by_cases hx1 : 0 < x
              · cases hh : hasZ (nth bs k).needs j
                · go_wp2_with (first | (go_at_call 68; refine (l1In_any _ _ _ _).mono ?_; rintro e w' ⟨rfl, rfl⟩) | (go_at_call 76; refine (l1Has_any _ _ _ _ _ e3 (e6.below hb)).mono ?_; rintro e w' ⟨rfl, rfl⟩))
                  go_ret
                  exact ⟨by rw [HI.out, HD2.out, ← HX.out]; simp only [rowS]; rw [if_pos (.inr ⟨hx1, hh⟩)]; rfl, hb⟩
                go_wp2_with (first | (go_at_call 68; refine (l1In_any _ _ _ _).mono ?_; rintro e w' ⟨rfl, rfl⟩) | (go_at_call 76; refine (l1Has_any _ _ _ _ _ e3 (e6.below hb)).mono ?_; rintro e w' ⟨rfl, rfl⟩))
                go_still_tail 15, (by kernel_rfl)
                change wpList _ _ _ _ _ wr.drew
                go_wp2
                go_roundw
                case rel =>
                  refine ⟨j + 1, L + x, upd G' j (G' j + x), by omega, by go_num, rfl, by omega, by omega, OwnI.set ho j _, fun q => ?_, fun q hq => ?_, ?_, (by repeat (first | with_reducible assumption | exact Below.refl _ _ | refine below_drewN ?_ _ | refine Below.drew ?_ | refine Below.alloc ?_ (by first | omega | (simp; done) | (simp; omega)) _ | refine Below.setCell ?_ (by first | omega | (simp; done) | (simp; omega)) _))⟩
                  · unfold upd; split
                    · omega
                    · exact hG1 q
                  · unfold upd; rw [if_neg (by omega)]; exact hG2 q (by omega)
                  · show _ = _; rw [HI.out, HD2.out, ← HX.out]; simp only [rowS]; rw [if_neg (by rintro ((h | h) | ⟨h, h'⟩) <;> first | omega | (simp [hh] at h'))]
                case measure => simp [intOf] <;> omega
              · go_wp2_with (first | (go_at_call 68; refine (l1In_any _ _ _ _).mono ?_; rintro e w' ⟨rfl, rfl⟩) | (go_at_call 76; refine (l1Has_any _ _ _ _ _ e3 (e6.below hb)).mono ?_; rintro e w' ⟨rfl, rfl⟩))
                go_still_tail 15, (by kernel_rfl)
                change wpList _ _ _ _ _ wr.drew
                go_wp2
                go_roundw
                case rel =>
                  refine ⟨j + 1, L + x, upd G' j (G' j + x), by omega, by go_num, rfl, by omega, by omega, OwnI.set ho j _, fun q => ?_, fun q hq => ?_, ?_, (by repeat (first | with_reducible assumption | exact Below.refl _ _ | refine below_drewN ?_ _ | refine Below.drew ?_ | refine Below.alloc ?_ (by first | omega | (simp; done) | (simp; omega)) _ | refine Below.setCell ?_ (by first | omega | (simp; done) | (simp; omega)) _))⟩
                  · unfold upd; split
                    · omega
                    · exact hG1 q
                  · unfold upd; rw [if_neg (by omega)]; exact hG2 q (by omega)
                  · show _ = _; rw [HI.out, HD2.out, ← HX.out]; simp only [rowS]; rw [if_neg (by omega)]
                case measure => simp [intOf] <;> omega
            · have hr := HI.out
              rw [drop_end (xs := nth pay k) (by have := HL.out; omega)] at hr
              simp only [rowS, Option.elim_some] at hr
              by_cases hle : pos (nth bs k).worth < L
              · rw [if_pos hle] at hr
                have hle' : max (nth bs k).worth 0 < L := hle
                have HR3 := Lib.hid hr
                clear hr hle
                go_wp2
                go_ret
                exact ⟨by rw [HR3.out]; rfl, hb⟩
              · rw [if_neg hle] at hr
                have hle' : ¬ max (nth bs k).worth 0 < L := hle
                have HR3 := Lib.hid hr
                clear hr hle
                go_wp2
                go_roundw
                case rel => exact ⟨k + 1, G', by omega, by go_num, ho, fun q => by have := hG1 q; omega, HR3.out, hb⟩
                case measure => simp [intOf] <;> omega
        · have hne2 : (((nth pay k).length : Int) != (bs.length : Int)) = true := by simp; omega
          go_wp2
          go_ret
          exact ⟨by rw [HR.out, HD.out]; simp [payS, hlen], hb⟩
      · have hr := HR.out
        rw [drop_end (xs := pay) (by have := HN.out; omega)] at hr
        have HR2 := Lib.hid hr
        clear hr HR
        go_wp2_with fail
        go_loopw [9] (fun i wr => ∃ (k : Nat), k ≤ bs.length ∧ i = .int .i64 k ∧ OwnI wr w.heap.size bs.length G ∧ Hid (payOkS bs pay = getsOk G k (bs.drop k)) ∧ Below w.heap.size w wr) (fun i _ => bs.length - (intOf i).toNat)
        case atStart => exact ⟨0, by omega, rfl, ho, HR2.out, hb⟩
        case round =>
          obtain ⟨k2, hk2, rfl, ho, HR, hb⟩ := hrel
          by_cases hlt : k2 < bs.length
          · obtain ⟨b', off', A', C', rfl, hbw', e1, e2, e3, e4, e5, e6⟩ := Pit.at (hs.below hb) hlt
            have hd := drop_nth hlt
            have HD := Lib.hid hd
            clear hd hs
            obtain ⟨hw1, hw2⟩ := pitOk_worth hp hlt
            have g1 := ho.cell hlt
            have hg := hG k2
            obtain ⟨hc1, hc2⟩ := cost_range hw1
            by_cases hle : G k2 ≤ cost (nth bs k2).worth
            · have hle' : ¬ max (-(nth bs k2).worth) 0 < G k2 := by unfold cost pos at hle; omega
              have HLE := Lib.hid hle
              clear hle hc1 hc2
              go_wp2_with fail
              go_quiet (fail)
              go_wp2
              go_roundw
              case rel => exact ⟨k2 + 1, by omega, by go_num, rowIs_drewN ho, by show _ = _; rw [HR.out, HD.out]; simp [getsOk, HLE.out], (by repeat (first | with_reducible assumption | exact Below.refl _ _ | refine below_drewN ?_ _ | refine Below.drew ?_ | refine Below.alloc ?_ (by first | omega | (simp; done) | (simp; omega)) _ | refine Below.setCell ?_ (by first | omega | (simp; done) | (simp; omega)) _))⟩
              case measure => simp [intOf] <;> omega
            · have hle' : max (-(nth bs k2).worth) 0 < G k2 := by unfold cost pos at hle; omega
              have HLE := Lib.hid hle
              clear hle hc1 hc2
              go_wp2_with fail
              go_quiet (fail)
              go_wp2
              go_ret
              exact ⟨by have h := HLE.out; rw [HR.out, HD.out]; simp only [getsOk]; rw [decide_eq_false (by omega)]; rfl, (by repeat (first | with_reducible assumption | exact Below.refl _ _ | refine below_drewN ?_ _ | refine Below.drew ?_ | refine Below.alloc ?_ (by first | omega | (simp; done) | (simp; omega)) _ | refine Below.setCell ?_ (by first | omega | (simp; done) | (simp; omega)) _))⟩
          · go_wp2
            go_ret
            exact ⟨by rw [HR.out, drop_end (xs := bs) (by omega)]; rfl, hb⟩
  · have hne : ((pay.length : Int) != (bs.length : Int)) = true := by simp; omega
    go_enter Tryd.func45, Tryd.ntmps45
    go_wp2_with (go_at_call 19; refine (spitValid_any _ _ _ _ hl hs).mono ?_; rintro e w' ⟨rfl, q0, rfl⟩)
    go_ret
    exact ⟨by simp [payOkS, hn], (by repeat (first | with_reducible assumption | exact Below.refl _ _ | refine below_drewN ?_ _ | refine Below.drew ?_ | refine Below.alloc ?_ (by first | omega | (simp; done) | (simp; omega)) _ | refine Below.setCell ?_ (by first | omega | (simp; done) | (simp; omega)) _))⟩

theorem spaySum_any (a1 a2 : Option Addr) (c1 c2 : Nat) (bs : List Blk) (pay : List (List Int)) (w : World) (hl : bs.length ≤ 1048576) (hl2 : pay.length ≤ 1048576) (hs : Pit w a1 bs) (ht : Tab w a2 pay) :
    Calls Tryd.prog 60 #[.slice a1 bs.length c1, .slice a2 pay.length c2] w fun e w' => e = .returned (.int .i64 (paySumF bs pay)) ∧ Below w.heap.size w w' := by
  have HE := Lib.hid (payOkS_eq bs pay)
  cases hv : payOkF bs pay
  · have hv' : payOkS bs pay = false := HE.out.trans hv
    go_enter Tryd.func60, Tryd.ntmps60
    go_wp2_with (go_at_call 45; refine (spayOk_any _ _ _ _ _ _ _ hl hl2 hs ht).mono ?_; rintro e w' ⟨rfl, hb0⟩)
    go_ret
    exact ⟨by simp [paySumF, hv], hb0⟩
  have hv' : payOkS bs pay = true := HE.out.trans hv
  obtain ⟨hp, hpl, hnum⟩ := payOk_num hv
  have hl8 := pitOk_len hp
  have HN := Lib.hid hnum
  have hp8 : pay.length ≤ 8 := by omega
  have HF : Hid (paySumF bs pay = sumTab 0 pay) := by simp [Hid, paySumF, hv]
  clear hnum hpl
  go_enter Tryd.func60, Tryd.ntmps60
  go_wp2_with (go_at_call 45; refine (spayOk_any _ _ _ _ _ _ _ hl hl2 hs ht).mono ?_; rintro e w1 ⟨rfl, hb0⟩)
  clear hs
  go_loopw [5, 6] (fun t i wr => ∃ (k : Nat) (T : Int), k ≤ pay.length ∧ i = .int .i64 k ∧ t = .int .i64 T ∧ 0 ≤ T ∧ T ≤ 160 * k ∧ Hid (sumTab 0 pay = sumTab T (pay.drop k)) ∧ wr = w1) (fun _ i _ => pay.length - (intOf i).toNat)
  case atStart => exact ⟨0, 0, by omega, rfl, rfl, by omega, by omega, rfl, rfl⟩
  case round =>
    obtain ⟨k, T, hk, rfl, rfl, ht0, ht1, HR, rfl⟩ := hrel
    by_cases hlt : k < pay.length
    · obtain ⟨b, off, A, C, rfl, hbw, d1, d2, d3, d4, d5⟩ := Tab.at (ht.below hb0) hlt
      have hd := drop_nth hlt
      have HD := Lib.hid hd
      clear hd ht
      have hrow := HN.out _ (nth_mem hlt)
      have hrl : (nth pay k).length ≤ 8 := by omega
      have HW := Lib.hid hrow.2
      clear hrow
      go_wp2_with fail
      go_loopw [5, 7] (fun t j wi => ∃ (q : Nat) (S : Int), q ≤ (nth pay k).length ∧ j = .int .i64 q ∧ t = .int .i64 S ∧ 0 ≤ S ∧ S ≤ 160 * k + 20 * q ∧ Hid (sumRow T (nth pay k) = sumRow S ((nth pay k).drop q)) ∧ wi = wr) (fun _ j _ => (nth pay k).length - (intOf j).toNat)
      case atStart => exact ⟨0, T, by omega, rfl, rfl, by omega, by omega, rfl, rfl⟩
      case round =>
        obtain ⟨q, S, hq, rfl, rfl, hs0, hs1, HS, rfl⟩ := hrel
        by_cases hlt2 : q < (nth pay k).length
        · obtain ⟨b3, off3, rfl, hbw3, hc⟩ := Ints.at d5 hlt2
          have f1 := hc q hlt2
          obtain ⟨hx0, hx1⟩ := HW.out _ (nth_mem hlt2)
          have hd := drop_nth hlt2
          have HD2 := Lib.hid hd
          clear hd hc
          go_wp2
          go_roundw
          case rel => exact ⟨q + 1, _, by omega, by go_num, rfl, by omega, by omega, by show _ = _; rw [HS.out, HD2.out]; rfl, by trivial⟩
          case measure => simp [intOf] <;> omega
        · go_wp2
          go_roundw
          case rel => exact ⟨k + 1, _, by omega, by go_num, rfl, by omega, by omega, by show _ = _; rw [HR.out, HD.out]; simp only [sumTab]; rw [HS.out, drop_end (xs := nth pay k) (by omega)]; rfl, by trivial⟩
          case measure => simp [intOf] <;> omega
    · go_wp2
      go_ret
      exact ⟨by rw [HF.out, HR.out, drop_end (xs := pay) (by omega)]; rfl, hb0⟩
end Go.Proofs.YtnjpifaphmeepaaDoor
