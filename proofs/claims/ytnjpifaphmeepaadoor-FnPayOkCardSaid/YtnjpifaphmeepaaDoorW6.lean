/- Walks: impl.PayOk, impl.PaySum. -/
import Derived.Test.YtnjpifaphmeepaaDoorW5
namespace Go.Proofs.YtnjpifaphmeepaaDoor
open Go Go.RowKit

theorem payOk_any (a1 a2 : Option Addr) (c1 c2 : Nat) (bs : List Blk) (pay : List (List Int)) (w : World) (hl : bs.length ≤ 1048576) (hl2 : pay.length ≤ 1048576) (hs : Pit w a1 bs) (ht : Tab w a2 pay) :
    Calls Tryd.prog 44 #[.slice a1 bs.length c1, .slice a2 pay.length c2] w fun e w' => e = .returned (.bool (payOkF bs pay)) ∧ Below w.heap.size w w' := by
  cases hp : pitOk bs
  · go_enter Tryd.func44, Tryd.ntmps44
    go_wp2_with (go_at_call 18; refine (pitValid_any _ _ _ _ hl hs).mono ?_; rintro e w' ⟨rfl, hb0⟩)
    go_ret
    exact ⟨by simp [payOkF, hp], hb0⟩
  have hl8 := pitOk_len hp
  by_cases hn : pay.length = bs.length
  · have hne : ((pay.length : Int) != (bs.length : Int)) = false := by simp [hn]
    have HN := Lib.hid hn
    have hmk := mkInts bs.length (by omega)
    have hl9 : pay.length ≤ 8 := by omega
    clear hn
    go_enter Tryd.func44, Tryd.ntmps44
    go_wp2_with (go_at_call 18; refine (pitValid_any _ _ _ _ hl hs).mono ?_; rintro e w1 ⟨rfl, hb0⟩)
    clear hmk
    have hz0 := hb0.size
    go_loopw [28] (fun i wr => ∃ (k : Nat) (G : Nat → Int), k ≤ pay.length ∧ i = .int .i64 k ∧ OwnI wr w1.heap.size bs.length G ∧ (∀ q, 0 ≤ G q ∧ G q ≤ 20 * k) ∧ Hid (payOkF bs pay = payI bs k (pay.drop k) G) ∧ Below w.heap.size w wr) (fun i _ => pay.length - (intOf i).toNat)
    case atStart => exact ⟨0, fun _ => 0, by omega, rfl, OwnI.made w1 _, fun q => by simp, by simp [Hid, payOkF, hp, HN.out], (by repeat (first | with_reducible assumption | exact Below.refl _ _ | refine below_drewN ?_ _ | refine Below.drew ?_ | refine Below.alloc ?_ (by first | omega | (simp; done) | (simp; omega)) _ | refine Below.setCell ?_ (by first | omega | (simp; done) | (simp; omega)) _))⟩
    case round =>
      obtain ⟨k, G, hk, rfl, ho, hG, HR, hb⟩ := hrel
      by_cases hlt : k < pay.length
      · have hkb : k < bs.length := by have := HN.out; omega
        obtain ⟨b, off, A, C, rfl, hbw, d1, d2, d3, d4, d5⟩ := Tab.at ht hlt
        obtain ⟨b', off', A', C', rfl, hbw', e1, e2, e3, e4, e5, e6⟩ := Pit.at hs hkb
        rw [← hb.cell (p := ⟨b, _, none⟩) hbw] at d1
        rw [← hb.cell (p := ⟨b', _, none⟩) hbw'] at e1
        have hd := drop_nth hlt
        have HD := Lib.hid hd
        clear hd
        obtain ⟨hw1, hw2⟩ := pitOk_worth hp hkb
        by_cases hlen : (nth pay k).length = bs.length
        · have hne2 : (((nth pay k).length : Int) != (bs.length : Int)) = false := by simp [hlen]
          have HL := Lib.hid hlen
          clear hlen
          go_wp2_with fail
          obtain ⟨hp1, hp2⟩ := pos_range hw2
          unfold pos at hp1 hp2
          clear hne2 hne d1 e1
          go_loopw [8, 46] (fun left jj wi => ∃ (j : Nat) (L : Int) (G' : Nat → Int), j ≤ (nth pay k).length ∧ jj = .int .i64 j ∧ left = .int .i64 L ∧ 0 ≤ L ∧ L ≤ 20 ∧ OwnI wi w1.heap.size bs.length G' ∧ (∀ q, 0 ≤ G' q ∧ G' q ≤ 20 * k + 20) ∧ (∀ q, j ≤ q → G' q ≤ 20 * k) ∧ Hid (payOkF bs pay = (rowI (nth bs k).needs j ((nth pay k).drop j) L G').elim false (fun G'' => payI bs (k + 1) (pay.drop (k + 1)) G'')) ∧ Below w.heap.size w wi) (fun _ jj _ => (nth pay k).length - (intOf jj).toNat)
          case atStart => exact ⟨0, _, G, by omega, rfl, rfl, hp1, hp2, ho, fun q => by have := hG q; omega, fun q _ => by have := hG q; omega, by show _ = _; rw [HR.out, HD.out]; simp [payI, HL.out, pos], hb⟩
          case round =>
            obtain ⟨j, L, G', hj, rfl, rfl, hL0, hL1, ho, hG1, hG2, HI, hb⟩ := hrel
            by_cases hlt2 : j < (nth pay k).length
            · have hjb : j < bs.length := by have := HL.out; omega
              obtain ⟨b3, off3, rfl, hbw3, hc⟩ := Ints.at d5 hlt2
              have f1 := hc j hlt2
              rw [← hb.cell (p := ⟨b3, _, none⟩) hbw3] at f1
              rw [← hb.cell (p := ⟨b', _, none⟩) hbw'] at e2
              have hd := drop_nth hlt2
              have HD2 := Lib.hid hd
              clear hd hc
              have g1 := ho.cell hjb
              have g2 := ho.frozen j
              have hg1 := hG1 j
              have hg2 := hG2 j (Nat.le_refl _)
              obtain ⟨x, hx⟩ : ∃ x, x = nth (nth pay k) j := ⟨_, rfl⟩
              rw [← hx] at f1
              have HX := Lib.hid hx
              clear hx
              by_cases hx0 : x < 0
              · go_wp2
                go_ret
                exact ⟨by rw [HI.out, HD2.out, ← HX.out]; simp [rowI, hx0], hb⟩
              by_cases hxL : L < x
              · go_wp2
                go_ret
                exact ⟨by rw [HI.out, HD2.out, ← HX.out]; simp [rowI, hxL], hb⟩
              by_cases hx1 : 0 < x
              · cases hh : hasZ (nth bs k).needs j
                · go_wp2_with (go_at_call 75; refine (slicesContains_any _ _ _ _ _ e3 (e6.below hb)).mono ?_; rintro e w' ⟨rfl, rfl⟩)
                  go_ret
                  exact ⟨by rw [HI.out, HD2.out, ← HX.out]; simp only [rowI]; rw [if_neg (by omega), if_pos ⟨hx1, hh⟩]; rfl, hb⟩
                go_wp2_with (go_at_call 75; refine (slicesContains_any _ _ _ _ _ e3 (e6.below hb)).mono ?_; rintro e w' ⟨rfl, rfl⟩)
                go_roundw
                case rel =>
                  refine ⟨j + 1, L - x, upd G' j (G' j + x), by omega, by go_num, rfl, by omega, by omega, OwnI.set ho j _, fun q => ?_, fun q hq => ?_, ?_, (by repeat (first | with_reducible assumption | exact Below.refl _ _ | refine below_drewN ?_ _ | refine Below.drew ?_ | refine Below.alloc ?_ (by first | omega | (simp; done) | (simp; omega)) _ | refine Below.setCell ?_ (by first | omega | (simp; done) | (simp; omega)) _))⟩
                  · unfold upd; split
                    · omega
                    · exact hG1 q
                  · unfold upd; rw [if_neg (by omega)]; exact hG2 q (by omega)
                  · show _ = _; rw [HI.out, HD2.out, ← HX.out]; simp only [rowI]; rw [if_neg (by omega), if_neg (by simp [hh])]
                case measure => simp [intOf] <;> omega
              · have hh : True := trivial
                go_wp2
                go_roundw
                case rel =>
                  refine ⟨j + 1, L - x, upd G' j (G' j + x), by omega, by go_num, rfl, by omega, by omega, OwnI.set ho j _, fun q => ?_, fun q hq => ?_, ?_, (by repeat (first | with_reducible assumption | exact Below.refl _ _ | refine below_drewN ?_ _ | refine Below.drew ?_ | refine Below.alloc ?_ (by first | omega | (simp; done) | (simp; omega)) _ | refine Below.setCell ?_ (by first | omega | (simp; done) | (simp; omega)) _))⟩
                  · unfold upd; split
                    · omega
                    · exact hG1 q
                  · unfold upd; rw [if_neg (by omega)]; exact hG2 q (by omega)
                  · show _ = _; rw [HI.out, HD2.out, ← HX.out]; simp only [rowI]; rw [if_neg (by omega), if_neg (by omega)]
                case measure => simp [intOf] <;> omega
            · go_wp2
              go_roundw
              case rel => exact ⟨k + 1, G', by omega, by go_num, ho, fun q => by have := hG1 q; omega, by show _ = _; rw [HI.out, drop_end (xs := nth pay k) (by omega)]; rfl, hb⟩
              case measure => simp [intOf] <;> omega
        · have hne2 : (((nth pay k).length : Int) != (bs.length : Int)) = true := by simp; omega
          go_wp2
          go_ret
          exact ⟨by rw [HR.out, HD.out]; simp [payI, hlen], hb⟩
      · have hr := HR.out
        rw [List.drop_eq_nil_of_le (by omega)] at hr
        have HR2 := Lib.hid hr
        clear hr HR
        go_wp2_with fail
        go_loopw [84] (fun i wr => ∃ (k : Nat), k ≤ bs.length ∧ i = .int .i64 k ∧ OwnI wr w1.heap.size bs.length G ∧ Hid (payOkF bs pay = getsOk G k (bs.drop k)) ∧ Below w.heap.size w wr) (fun i _ => bs.length - (intOf i).toNat)
        case atStart => exact ⟨0, by omega, rfl, ho, HR2.out, hb⟩
        case round =>
          obtain ⟨k2, hk2, rfl, ho, HR, hb⟩ := hrel
          by_cases hlt : k2 < bs.length
          · have hz := hb.size
            obtain ⟨b', off', A', C', rfl, hbw', e1, e2, e3, e4, e5, e6⟩ := Pit.at (hs.below hb) hlt
            have hd := drop_nth hlt
            have HD := Lib.hid hd
            clear hd hs
            obtain ⟨hw1, hw2⟩ := pitOk_worth hp hlt
            have g1 := ho.cell hlt
            have hlw := ho.lt
            have hg := hG k2
            obtain ⟨hc1, hc2⟩ := cost_range hw1
            by_cases hle : G k2 ≤ cost (nth bs k2).worth
            · have hle' : ¬ max (-(nth bs k2).worth) 0 < G k2 := by unfold cost pos at hle; omega
              have HLE := Lib.hid hle
              clear hle hc1 hc2
              go_wp2_with fail
              go_quiet (fail)
              go_wp2
              go_roundw
              case rel => exact ⟨k2 + 1, by omega, by go_num, rowIs_drewN (ho.alloc _), by show _ = _; rw [HR.out, HD.out]; simp [getsOk, HLE.out], (by repeat (first | with_reducible assumption | exact Below.refl _ _ | refine below_drewN ?_ _ | refine Below.drew ?_ | refine Below.alloc ?_ (by first | omega | (simp; done) | (simp; omega)) _ | refine Below.setCell ?_ (by first | omega | (simp; done) | (simp; omega)) _))⟩
              case measure => simp [intOf] <;> omega
            · have hle' : max (-(nth bs k2).worth) 0 < G k2 := by unfold cost pos at hle; omega
              have HLE := Lib.hid hle
              clear hle hc1 hc2
              go_wp2_with fail
              go_quiet (fail)
              go_wp2
              go_ret
              exact ⟨by have h := HLE.out; rw [HR.out, HD.out]; simp only [getsOk]; rw [decide_eq_false (by omega)]; rfl, (by repeat (first | with_reducible assumption | exact Below.refl _ _ | refine below_drewN ?_ _ | refine Below.drew ?_ | refine Below.alloc ?_ (by first | omega | (simp; done) | (simp; omega)) _ | refine Below.setCell ?_ (by first | omega | (simp; done) | (simp; omega)) _))⟩
          · go_wp2
            go_ret
            exact ⟨by rw [HR.out, List.drop_eq_nil_of_le (by omega)]; rfl, hb⟩
  · have hne : ((pay.length : Int) != (bs.length : Int)) = true := by simp; omega
    go_enter Tryd.func44, Tryd.ntmps44
    go_wp2_with (go_at_call 18; refine (pitValid_any _ _ _ _ hl hs).mono ?_; rintro e w' ⟨rfl, hb0⟩)
    go_ret
    exact ⟨by simp [payOkF, hn], hb0⟩

/-! ### the sum of all payments -/
theorem rowI_num {needs : List Int} {row : List Int} : ∀ {j : Nat} {left : Int} {G G' : Nat → Int}, rowI needs j row left G = some G' → ∀ x ∈ row, 0 ≤ x ∧ x ≤ left := by
  induction row with
  | nil => intro _ _ _ _ _ x hx; simp at hx
  | cons y l ih =>
    intro j left G G' h x hx
    simp only [rowI] at h
    split at h
    · cases h
    · rename_i h1
      split at h
      · cases h
      · rcases List.mem_cons.1 hx with rfl | hx
        · omega
        · have := ih h x hx; omega
theorem payI_num {bs : List Blk} (hp : pitOk bs = true) {pay : List (List Int)} : ∀ {i : Nat} {G : Nat → Int}, i + pay.length = bs.length → payI bs i pay G = true → ∀ row ∈ pay, row.length = bs.length ∧ ∀ x ∈ row, 0 ≤ x ∧ x ≤ 20 := by
  induction pay with
  | nil => intro _ _ _ _ row hr; simp at hr
  | cons y l ih =>
    intro i G hi h row hr
    simp only [payI] at h
    split at h
    · rename_i hl
      cases hq : rowI (nth bs i).needs 0 y (pos (nth bs i).worth) G with
      | none => rw [hq] at h; simp at h
      | some G' =>
        rw [hq] at h
        have hw := pitOk_worth hp (k := i) (by simp at hi; omega)
        rcases List.mem_cons.1 hr with rfl | hr
        · exact ⟨hl, fun x hx => by have h1 := rowI_num hq x hx; have h2 := pos_range hw.2; omega⟩
        · exact ih (by simp at hi; omega) h row hr
    · cases h
theorem payOk_num {bs : List Blk} {pay : List (List Int)} (h : payOkF bs pay = true) : pitOk bs = true ∧ pay.length = bs.length ∧ ∀ row ∈ pay, row.length = bs.length ∧ ∀ x ∈ row, 0 ≤ x ∧ x ≤ 20 := by
  simp only [payOkF, Bool.and_eq_true, decide_eq_true_eq] at h
  exact ⟨h.1.1, h.1.2, payI_num h.1.1 (by omega) h.2⟩
/-- sums, from a first number on -/
def sumRow (s : Int) : List Int → Int
  | [] => s
  | x :: l => sumRow (s + x) l
def sumTab (s : Int) : List (List Int) → Int
  | [] => s
  | r :: l => sumTab (sumRow s r) l
def paySumF (bs : List Blk) (pay : List (List Int)) : Int := if payOkF bs pay then sumTab 0 pay else -1

theorem paySum_any (a1 a2 : Option Addr) (c1 c2 : Nat) (bs : List Blk) (pay : List (List Int)) (w : World) (hl : bs.length ≤ 1048576) (hl2 : pay.length ≤ 1048576) (hs : Pit w a1 bs) (ht : Tab w a2 pay) :
    Calls Tryd.prog 46 #[.slice a1 bs.length c1, .slice a2 pay.length c2] w fun e w' => e = .returned (.int .i64 (paySumF bs pay)) ∧ Below w.heap.size w w' := by
  cases hv : payOkF bs pay
  · go_enter Tryd.func46, Tryd.ntmps46
    go_wp2_with (go_at_call 44; refine (payOk_any _ _ _ _ _ _ _ hl hl2 hs ht).mono ?_; rintro e w' ⟨rfl, hb0⟩)
    go_ret
    exact ⟨by simp [paySumF, hv], hb0⟩
  obtain ⟨hp, hpl, hnum⟩ := payOk_num hv
  have hl8 := pitOk_len hp
  have HN := Lib.hid hnum
  have hp8 : pay.length ≤ 8 := by omega
  have HF : Hid (paySumF bs pay = sumTab 0 pay) := by simp [Hid, paySumF, hv]
  clear hnum hpl
  go_enter Tryd.func46, Tryd.ntmps46
  go_wp2_with (go_at_call 44; refine (payOk_any _ _ _ _ _ _ _ hl hl2 hs ht).mono ?_; rintro e w1 ⟨rfl, hb0⟩)
  clear hs
  go_loopw [5, 16] (fun t i wr => ∃ (k : Nat) (T : Int), k ≤ pay.length ∧ i = .int .i64 k ∧ t = .int .i64 T ∧ 0 ≤ T ∧ T ≤ 160 * k ∧ Hid (sumTab 0 pay = sumTab T (pay.drop k)) ∧ wr = w1) (fun _ i _ => pay.length - (intOf i).toNat)
  case atStart => exact ⟨0, 0, by omega, rfl, rfl, by omega, by omega, rfl, rfl⟩
  case round =>
    obtain ⟨k, T, hk, rfl, rfl, ht0, ht1, HR, rfl⟩ := hrel
    by_cases hlt : k < pay.length
    · obtain ⟨b, off, A, C, rfl, hbw, d1, d2, d3, d4, d5⟩ := Tab.at (ht.below hb0) hlt
      have hd := drop_nth hlt
      have HD := Lib.hid hd
      clear hd ht
      have hrow := HN.out _ (nth_mem hlt)
      have hrl : (nth pay k).length ≤ 8 := by omega
      have HW := Lib.hid hrow.2
      clear hrow
      go_wp2_with fail
      go_loopw [5, 22] (fun t j wi => ∃ (q : Nat) (S : Int), q ≤ (nth pay k).length ∧ j = .int .i64 q ∧ t = .int .i64 S ∧ 0 ≤ S ∧ S ≤ 160 * k + 20 * q ∧ Hid (sumRow T (nth pay k) = sumRow S ((nth pay k).drop q)) ∧ wi = wr) (fun _ j _ => (nth pay k).length - (intOf j).toNat)
      case atStart => exact ⟨0, T, by omega, rfl, rfl, by omega, by omega, rfl, rfl⟩
      case round =>
        obtain ⟨q, S, hq, rfl, rfl, hs0, hs1, HS, rfl⟩ := hrel
        by_cases hlt2 : q < (nth pay k).length
        · obtain ⟨b3, off3, rfl, hbw3, hc⟩ := Ints.at d5 hlt2
          have f1 := hc q hlt2
          obtain ⟨hx0, hx1⟩ := HW.out _ (nth_mem hlt2)
          have hd := drop_nth hlt2
          have HD2 := Lib.hid hd
          clear hd hc
          go_wp2
          go_roundw
          case rel => exact ⟨q + 1, _, by omega, by go_num, rfl, by omega, by omega, by show _ = _; rw [HS.out, HD2.out]; rfl, by trivial⟩
          case measure => simp [intOf] <;> omega
        · go_wp2
          go_roundw
          case rel => exact ⟨k + 1, _, by omega, by go_num, rfl, by omega, by omega, by show _ = _; rw [HR.out, HD.out]; simp only [sumTab]; rw [HS.out, drop_end (xs := nth pay k) (by omega)]; rfl, by trivial⟩
          case measure => simp [intOf] <;> omega
    · go_wp2
      go_ret
      exact ⟨by rw [HF.out, HR.out, drop_end (xs := pay) (by omega)]; rfl, hb0⟩
end Go.Proofs.YtnjpifaphmeepaaDoor
