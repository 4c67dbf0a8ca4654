/- Walks: PitMay, PitCut, PitOrder of impl; PitCut, PitOrder of spec. -/
import Derived.Test.YtnjpifaphmeepaaDoorW5
import Derived.Test.YtnjpifaphmeepaaDoorS4
import Derived.Test.YtnjpifaphmeepaaDoorApp
namespace Go.Proofs.YtnjpifaphmeepaaDoor
open Go Go.RowKit

theorem pitMay_any (a : Option Addr) (c : Nat) (bs : List Blk) (s : Int) (w : World) (hl : bs.length ≤ 1048576) (hs : Pit w a bs) :
    Calls Tryd.prog 25 #[.slice a bs.length c, .int .i64 s] w fun e w' => e = .returned (.bool (mayF bs s)) ∧ Below w.heap.size w w' := by
  cases hv : setOk bs s
  · go_enter Tryd.func25, Tryd.ntmps25
    go_wp2_with (go_at_call 71; refine (pitSetFits_any _ _ _ _ _ hl hs).mono ?_; rintro e w' ⟨rfl, hb⟩)
    go_ret
    exact ⟨by simp [mayF, hv], hb⟩
  obtain ⟨hp, m, rfl, hm⟩ := setOk_of hv
  have hl8 := pitOk_len hp
  have hm' : m < 256 := Nat.lt_of_lt_of_le hm (pow_le_of (k := 8) hl8)
  have HF : Hid (mayF bs m = mayOf bs m) := by simp [Hid, mayF, hv]
  clear hm
  go_enter Tryd.func25, Tryd.ntmps25
  go_wp2_with (go_at_call 71; refine (pitSetFits_any _ _ _ _ _ hl hs).mono ?_; rintro e w1 ⟨rfl, hb0⟩)
  go_loopw [15] (fun i wr => ∃ (k : Nat), k ≤ bs.length ∧ i = .int .i64 k ∧ Hid (mayOf bs m = mayFrom m k (bs.drop k)) ∧ Below w.heap.size w wr) (fun i _ => bs.length - (intOf i).toNat)
  case atStart => exact ⟨0, by omega, rfl, rfl, hb0⟩
  case round =>
    obtain ⟨k, hk, rfl, HR, hb⟩ := hrel
    by_cases hlt : k < bs.length
    · have hz := hb.size
      obtain ⟨b, off, A, C, rfl, hbw, h1, h2, h3, h4, h5, h6⟩ := Pit.at (hs.below hb) hlt
      have hneed := fun j => pitOk_need hp (i := k) (j := j) (by omega)
      have HN := Lib.hid hneed
      clear hs hneed
      have hd := drop_nth hlt
      have HD := Lib.hid hd
      clear hd
      have hbit := shr_and m k (by omega)
      cases hq : m.testBit k
      · rw [bitZ_false hq] at hbit
        go_wp2
        go_roundw
        case rel => exact ⟨k + 1, by omega, by go_num, by show _ = _; rw [HR.out, HD.out]; simp [mayFrom, hq], (by repeat (first | with_reducible assumption | exact Below.refl _ _ | refine below_drewN ?_ _ | refine Below.drew ?_ | refine Below.alloc ?_ (by first | omega | (simp; done) | (simp; omega)) _ | refine Below.setCell ?_ (by first | omega | (simp; done) | (simp; omega)) _))⟩
        case measure => simp [intOf] <;> omega
      · rw [bitZ_true hq] at hbit
        have h6' := h6.alloc (.cells #[.int .i64 (nth bs k).worth, .slice A (nth bs k).needs.length C] 28)
        go_wp2_with fail
        clear h1 h2 hbit
        have hb2 : Below w.heap.size w (wr.alloc (.cells #[.int .i64 (nth bs k).worth, .slice A (nth bs k).needs.length C] 28)) := (by repeat (first | with_reducible assumption | exact Below.refl _ _ | refine below_drewN ?_ _ | refine Below.drew ?_ | refine Below.alloc ?_ (by first | omega | (simp; done) | (simp; omega)) _ | refine Below.setCell ?_ (by first | omega | (simp; done) | (simp; omega)) _))
        generalize wr.alloc (.cells #[.int .i64 (nth bs k).worth, .slice A (nth bs k).needs.length C] 28) = W2 at h6' hb2
        go_loopw [28] (fun ii wi => ∃ (j : Nat), j ≤ (nth bs k).needs.length ∧ ii = .int .i64 j ∧ Hid (needsIn m (nth bs k).needs = needsIn m ((nth bs k).needs.drop j)) ∧ wi = W2) (fun ii _ => (nth bs k).needs.length - (intOf ii).toNat)
        case atStart => exact ⟨0, by omega, rfl, rfl, rfl⟩
        case round =>
          obtain ⟨j, hj, rfl, HO, rfl⟩ := hrel
          by_cases hlt2 : j < (nth bs k).needs.length
          · obtain ⟨b', off', rfl, hb', hc⟩ := Ints.at h6' hlt2
            obtain ⟨y, hy, hyk⟩ := HN.out j hlt2
            have c1 := hc j hlt2
            rw [hy] at c1
            have HY := Lib.hid hy
            have hd := drop_nth hlt2
            have HD2 := Lib.hid hd
            have hbit2 := shr_and m y (by omega)
            clear hd hy hc
            cases hq2 : m.testBit y
            · rw [bitZ_false hq2] at hbit2
              go_wp2
              go_ret
              exact ⟨by rw [HF.out, HR.out, HD.out]; simp only [mayFrom, hq, if_true]; rw [HO.out, HD2.out]; simp [needsIn, HY.out, hq2], hb2⟩
            · rw [bitZ_true hq2] at hbit2
              go_wp2
              go_roundw
              case rel => exact ⟨j + 1, by omega, by go_num, by show _ = _; rw [HO.out, HD2.out]; simp [needsIn, HY.out, hq2], by trivial⟩
              case measure => simp [intOf] <;> omega
          · go_wp2
            go_roundw
            case rel => exact ⟨k + 1, by omega, by go_num, by show _ = _; rw [HR.out, HD.out]; simp only [mayFrom, hq, if_true]; rw [HO.out, List.drop_eq_nil_of_le (by omega)]; simp [needsIn], hb2⟩
            case measure => simp [intOf] <;> omega
    · go_wp2
      go_ret
      exact ⟨by rw [HF.out, HR.out, List.drop_eq_nil_of_le (by omega)]; rfl, hb⟩

/-! ### cuts -/
def cutFrom (m : Nat) : Nat → List Blk → Int
  | _, [] => 0
  | i, b :: l => (if m.testBit i then cost b.worth else pos b.worth) + cutFrom m (i + 1) l
def cutF (bs : List Blk) (s : Int) : Int := if mayF bs s then cutFrom s.toNat 0 bs else -1
theorem mayF_set {bs : List Blk} {s : Int} (h : mayF bs s = true) : setOk bs s = true := by
  simp only [mayF, Bool.and_eq_true] at h; exact h.1

theorem pitCut_any (a : Option Addr) (c : Nat) (bs : List Blk) (s : Int) (w : World) (hl : bs.length ≤ 1048576) (hs : Pit w a bs) :
    Calls Tryd.prog 27 #[.slice a bs.length c, .int .i64 s] w fun e w' => e = .returned (.int .i64 (cutF bs s)) ∧ Below w.heap.size w w' := by
  cases hv : mayF bs s
  · go_enter Tryd.func27, Tryd.ntmps27
    go_wp2_with (go_at_call 25; refine (pitMay_any _ _ _ _ _ hl hs).mono ?_; rintro e w' ⟨rfl, hb⟩)
    go_ret
    exact ⟨by simp [cutF, hv], hb⟩
  obtain ⟨hp, m, rfl, hm⟩ := setOk_of (mayF_set hv)
  have hl8 := pitOk_len hp
  have hm' : m < 256 := Nat.lt_of_lt_of_le hm (pow_le_of (k := 8) hl8)
  have HF : Hid (cutF bs m = cutFrom m 0 bs) := by simp [Hid, cutF, hv]
  clear hm
  go_enter Tryd.func27, Tryd.ntmps27
  go_wp2_with (go_at_call 25; refine (pitMay_any _ _ _ _ _ hl hs).mono ?_; rintro e w1 ⟨rfl, hb0⟩)
  go_loopw [5, 14] (fun t i wr => ∃ (k : Nat) (T : Int), k ≤ bs.length ∧ i = .int .i64 k ∧ t = .int .i64 T ∧ 0 ≤ T ∧ T ≤ 20 * k ∧ Hid (cutFrom m 0 bs = T + cutFrom m k (bs.drop k)) ∧ Below w.heap.size w wr) (fun _ i _ => bs.length - (intOf i).toNat)
  case atStart => exact ⟨0, 0, by omega, rfl, rfl, by omega, by omega, by simp [Hid], hb0⟩
  case round =>
    obtain ⟨k, T, hk, rfl, rfl, ht1, ht2, HR, hb⟩ := hrel
    by_cases hlt : k < bs.length
    · have hz := hb.size
      obtain ⟨b, off, A, C, rfl, hbw, h1, h2, h3, h4, h5, h6⟩ := Pit.at (hs.below hb) hlt
      clear hs
      obtain ⟨hw1, hw2⟩ := pitOk_worth hp hlt
      have hd := drop_nth hlt
      have HD := Lib.hid hd
      clear hd
      have hbit := shr_and m k (by omega)
      cases hq : m.testBit k
      · rw [bitZ_false hq] at hbit
        go_wp2
        go_roundw
        case rel => exact ⟨k + 1, T + max (nth bs k).worth 0, by omega, by go_num, rfl, by omega, by omega, by show _ = _; rw [HR.out, HD.out]; simp [cutFrom, hq, pos]; omega, (by repeat (first | with_reducible assumption | exact Below.refl _ _ | refine below_drewN ?_ _ | refine Below.drew ?_ | refine Below.alloc ?_ (by first | omega | (simp; done) | (simp; omega)) _ | refine Below.setCell ?_ (by first | omega | (simp; done) | (simp; omega)) _))⟩
        case measure => simp [intOf]; omega
      · rw [bitZ_true hq] at hbit
        go_wp2
        go_roundw
        case rel => exact ⟨k + 1, T + max (-(nth bs k).worth) 0, by omega, by go_num, rfl, by omega, by omega, by show _ = _; rw [HR.out, HD.out]; simp [cutFrom, hq, cost, pos]; omega, (by repeat (first | with_reducible assumption | exact Below.refl _ _ | refine below_drewN ?_ _ | refine Below.drew ?_ | refine Below.alloc ?_ (by first | omega | (simp; done) | (simp; omega)) _ | refine Below.setCell ?_ (by first | omega | (simp; done) | (simp; omega)) _))⟩
        case measure => simp [intOf]; omega
    · go_wp2
      go_ret
      exact ⟨by rw [HF.out, HR.out, List.drop_eq_nil_of_le (by omega)]; simp [cutFrom], hb⟩

theorem sCut_any (a : Option Addr) (c : Nat) (bs : List Blk) (s : Int) (w : World) (hl : bs.length ≤ 1048576) (hs : Pit w a bs) :
    Calls Tryd.prog 28 #[.slice a bs.length c, .int .i64 s] w fun e w' => e = .returned (.int .i64 (cutF bs s)) ∧ ∃ q, w' = w.drewN q := by
  cases hv : mayF bs s
  · go_enter Tryd.func28, Tryd.ntmps28
    go_wp2_with (go_at_call 34; refine (sMay_any _ _ _ _ _ hl hs).mono ?_; rintro e w' ⟨rfl, q, rfl⟩)
    go_ret
    exact ⟨by simp [cutF, hv], _, rfl⟩
  obtain ⟨hp, m, rfl, hm⟩ := setOk_of (mayF_set hv)
  have hl8 := pitOk_len hp
  have hm' : m < 256 := Nat.lt_of_lt_of_le hm (pow_le_of (k := 8) hl8)
  have HF : Hid (cutF bs m = cutFrom m 0 bs) := by simp [Hid, cutF, hv]
  clear hm
  go_enter Tryd.func28, Tryd.ntmps28
  go_wp2_with (go_at_call 34; refine (sMay_any _ _ _ _ _ hl hs).mono ?_; rintro e w1 ⟨rfl, q0, rfl⟩)
  go_loopw [5, 6] (fun t i wr => ∃ (k : Nat) (T : Int), k ≤ bs.length ∧ i = .int .i64 k ∧ t = .int .i64 T ∧ 0 ≤ T ∧ T ≤ 20 * k ∧ Hid (cutFrom m 0 bs = T + cutFrom m k (bs.drop k)) ∧ wr = w.drewN q0) (fun _ i _ => bs.length - (intOf i).toNat)
  case atStart => exact ⟨0, 0, by omega, rfl, rfl, by omega, by omega, by simp [Hid], rfl⟩
  case round =>
    obtain ⟨k, T, hk, rfl, rfl, ht1, ht2, HR, rfl⟩ := hrel
    by_cases hlt : k < bs.length
    · obtain ⟨b, off, A, C, rfl, hbw, h1, h2, h3, h4, h5, h6⟩ := Pit.at hs hlt
      obtain ⟨hw1, hw2⟩ := pitOk_worth hp hlt
      have hd := drop_nth hlt
      have HD := Lib.hid hd
      clear hd
      have hbit := shr_tmod m k
      cases hq : m.testBit k
      · rw [bitZ_false hq] at hbit
        go_wp2
        go_roundw
        case rel => exact ⟨k + 1, T + max (nth bs k).worth 0, by omega, by go_num, rfl, by omega, by omega, by show _ = _; rw [HR.out, HD.out]; simp [cutFrom, hq, pos]; omega, by trivial⟩
        case measure => simp [intOf]; omega
      · rw [bitZ_true hq] at hbit
        go_wp2
        go_roundw
        case rel => exact ⟨k + 1, T + max (-(nth bs k).worth) 0, by omega, by go_num, rfl, by omega, by omega, by show _ = _; rw [HR.out, HD.out]; simp [cutFrom, hq, cost, pos]; omega, by trivial⟩
        case measure => simp [intOf]; omega
    · go_wp2
      go_ret
      exact ⟨by rw [HF.out, HR.out, List.drop_eq_nil_of_le (by omega)]; simp [cutFrom], _, rfl⟩

theorem cutFrom_sum (m : Nat) : ∀ (bs : List Blk) (i : Nat), cutFrom m i bs = sumN (fun k => if m.testBit (i + k) then cost (nth bs k).worth else pos (nth bs k).worth) bs.length := by
  have shift : ∀ (g : Nat → Int) (n : Nat), sumN g (n + 1) = g 0 + sumN (fun k => g (k + 1)) n := by
    intro g n
    induction n with
    | zero => simp [sumN]
    | succ n ih => rw [sumN, ih]; simp only [sumN]; omega
  intro bs
  induction bs with
  | nil => intro i; rfl
  | cons b l ih =>
    intro i
    rw [List.length_cons, shift, cutFrom, ih]
    have e : ∀ k, (i + 1 + k) = i + (k + 1) := fun k => by omega
    simp only [e]; rfl
theorem cutF_sum {bs : List Blk} {m : Nat} (h : mayF bs m = true) : cutF bs m = cutS bs m.testBit := by
  unfold cutF
  rw [if_pos h, cutFrom_sum]
  simp only [Nat.zero_add, Int.toNat_natCast]
  rfl

/-! ### orders -/
def orderF (bs : List Blk) (s : Int) : List Int := if mayF bs s then bitsBelow s.toNat bs.length else []
def ListOut (xs : List Int) (w : World) (e : Ending) (w' : World) : Prop := ∃ a C, e = .returned (.slice a xs.length C) ∧ xs.length ≤ C ∧ Ints w' a xs ∧ Below w.heap.size w w'

theorem bits_top {m n : Nat} (h : m < 2 ^ n) (hn : n ≤ 63) : bitsBelow m 63 = bitsBelow m n := by
  have key : ∀ d, n + d ≤ 63 → bitsBelow m (n + d) = bitsBelow m n := by
    intro d
    induction d with
    | zero => intro _; rfl
    | succ d ih =>
      intro hd
      rw [show n + (d + 1) = (n + d) + 1 by omega, bitsBelow_no (Nat.testBit_lt_two_pow (Nat.lt_of_lt_of_le h (pow_le_of (by omega)))), ih (by omega)]
  have := key (63 - n) (by omega)
  rwa [show n + (63 - n) = 63 by omega] at this

theorem pitOrder_any (a : Option Addr) (c : Nat) (bs : List Blk) (s : Int) (w : World) (hl : bs.length ≤ 1048576) (hs : Pit w a bs) :
    Calls Tryd.prog 31 #[.slice a bs.length c, .int .i64 s] w (ListOut (orderF bs s) w) := by
  cases hv : mayF bs s
  · go_enter Tryd.func31, Tryd.ntmps31
    go_wp2_with (go_at_call 25; refine (pitMay_any _ _ _ _ _ hl hs).mono ?_; rintro e w' ⟨rfl, hb⟩)
    go_ret
    have e : orderF bs s = [] := by simp [orderF, hv]
    exact ⟨none, 0, by rw [e]; rfl, by rw [e]; simp, by rw [e]; exact .inl rfl, hb⟩
  obtain ⟨hp, m, rfl, hm⟩ := setOk_of (mayF_set hv)
  have hl8 := pitOk_len hp
  have hm' : m < 256 := Nat.lt_of_lt_of_le hm (pow_le_of (k := 8) hl8)
  have HF : Hid (orderF bs m = bitsBelow m 63) := by
    show _ = _
    rw [bits_top hm (by omega)]; simp [orderF, hv]
  clear hm
  go_enter Tryd.func31, Tryd.ntmps31
  go_wp2_with (go_at_call 25; refine (pitMay_any _ _ _ _ _ hl hs).mono ?_; rintro e w1 ⟨rfl, hb0⟩)
  refine (setIndices_any m w1 (by omega)).mono ?_
  rintro e w2 ⟨v, rfl, ho, b2⟩
  obtain ⟨a2, c2, rfl, hc2, hi2⟩ := ints_of_owns ho
  replace b2 := hb0.trans (b2.mono hb0.size)
  clear ho hb0
  go_wp2_with fail
  go_ret
  exact ⟨a2, c2, by rw [HF.out]; rfl, by rw [HF.out]; exact hc2, by rw [HF.out]; exact hi2, b2⟩

theorem sOrder_any (a : Option Addr) (c : Nat) (bs : List Blk) (s : Int) (w : World) (hl : bs.length ≤ 1048576) (hs : Pit w a bs) :
    Calls Tryd.prog 33 #[.slice a bs.length c, .int .i64 s] w (ListOut (orderF bs s) w) := by
  obtain ⟨B, hB⟩ : ∃ B, w.heap.size = B := ⟨_, rfl⟩
  go_enter Tryd.func33, Tryd.ntmps33
  go_wp2_with fail
  obtain ⟨W0, hW0⟩ : ∃ W0, W0 = w.alloc (.cells #[] 3) := ⟨_, rfl⟩
  have b0 : Below w.heap.size w W0 := by rw [hW0]; exact (Below.refl _ _).alloc (Nat.le_refl _) _
  have ho : OwnZ W0 w.heap.size (.slice (some ⟨w.heap.size, 0, none⟩) 0 0) [] := by rw [hW0]; exact OwnZ.lit w _ (Nat.le_refl _)
  rw [hB] at ho b0
  rw [← hW0]
  clear hW0
  cases hv : mayF bs s
  · have HE : Hid (orderF bs s = []) := by show _ = _; simp [orderF, hv]
    go_loopw [5, 6] (fun v i wr => i = .int .i64 0 ∧ v = .slice (some ⟨B, 0, none⟩) 0 0 ∧ wr = W0) (fun _ i _ => 0 * (intOf i).toNat)
    case atStart => exact ⟨rfl, rfl, rfl⟩
    case round =>
      obtain ⟨rfl, rfl, rfl⟩ := hrel
      by_cases h0 : 0 < bs.length
      · go_wp2_with (go_at_call 34; refine (sMay_any _ _ _ _ _ hl (hs.below (hB ▸ b0))).mono ?_; rintro e w' ⟨rfl, q, rfl⟩)
        go_ret
        exact ⟨_, 0, by rw [HE.out]; rfl, by rw [HE.out]; simp, by rw [HE.out]; exact .inl rfl, hB ▸ below_drewN b0 q⟩
      · go_wp2
        go_ret
        exact ⟨_, 0, by rw [HE.out]; rfl, by rw [HE.out]; simp, by rw [HE.out]; exact .inl rfl, hB ▸ b0⟩
  obtain ⟨hp, m, rfl, hm⟩ := setOk_of (mayF_set hv)
  have hl8 := pitOk_len hp
  have hm' : m < 256 := Nat.lt_of_lt_of_le hm (pow_le_of (k := 8) hl8)
  have HE : Hid (orderF bs m = bitsBelow m bs.length) := by show _ = _; simp [orderF, hv]
  go_loopw [5, 6] (fun v i wr => ∃ (k : Nat), k ≤ bs.length ∧ i = .int .i64 k ∧ OwnZ wr B v (bitsBelow m k) ∧ Below B w wr) (fun _ i _ => bs.length - (intOf i).toNat)
  case atStart => exact ⟨0, by omega, rfl, ho, b0⟩
  case round =>
    obtain ⟨k, hk, rfl, ho, hb⟩ := hrel
    clear b0
    have hps := hs.below (hB ▸ hb)
    have hzb := hb.size
    by_cases hlt : k < bs.length
    · have hbit := shr_tmod m k
      have hlen := bitsBelow_len m k
      have hz : B ≤ wr.heap.size := by omega
      cases hq : m.testBit k
      · rw [bitZ_false hq] at hbit
        go_wp2_with (go_at_call 34; refine (sMay_any _ _ _ _ _ hl hps).mono ?_; rintro e w1 ⟨rfl, q1, rfl⟩)
        go_roundw
        case rel => exact ⟨k + 1, by omega, by go_num, by rw [bitsBelow_no hq]; exact ho.below (below_drewN (Below.refl _ _) q1), below_drewN hb q1⟩
        case measure => simp [intOf] <;> omega
      · rw [bitZ_true hq] at hbit
        obtain ⟨N, hN⟩ : ∃ N, bitsBelow m k = N := ⟨_, rfl⟩
        rw [hN] at ho hlen
        have HN := Lib.hid hN
        clear hN
        obtain ⟨a1, c1, rfl, hc1, hi1⟩ := ho.ints
        go_wp2_with (first
          | (go_at_call 34; refine (sMay_any _ _ _ _ _ hl hps).mono ?_; rintro e w1 ⟨rfl, q1, rfl⟩; have bq := below_drewN (Below.refl wr.heap.size wr) q1; have ho1 := ho.below bq; have hb1 := below_drewN hb q1; have hz1 := bq.size; clear ho hb hi1; generalize World.drewN wr q1 = w1 at ho1 hb1 hz1 ⊢)
          | (at_builtin; (refine appInt _ _ rfl rfl B (.slice a1 N.length c1) N k w1.heap.size 1 rfl (World.ownsRow.alloc ho1 _) rfl (by simp) (by omega) (by first | omega | (simp; done) | (simp; omega)) ?_; intro v' w2 ho2 b2)))
        go_roundw
        case rel => exact ⟨k + 1, by omega, by go_num, by rw [bitsBelow_yes hq, HN.out]; exact ho2, (hb1.alloc (Nat.le_trans hz hz1) _).trans b2⟩
        case measure => simp [intOf] <;> omega
    · obtain rfl : k = bs.length := by omega
      obtain ⟨a2, c2, rfl, hc2, hi2⟩ := ho.ints
      go_wp2
      go_ret
      exact ⟨a2, c2, by rw [HE.out]; rfl, by rw [HE.out]; exact hc2, by rw [HE.out]; exact hi2, hB ▸ hb⟩
end Go.Proofs.YtnjpifaphmeepaaDoor
