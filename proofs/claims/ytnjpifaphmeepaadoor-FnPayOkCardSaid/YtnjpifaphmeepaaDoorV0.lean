/- Walks: laws.both; the draws of a pit and a set. -/
import Derived.Test.YtnjpifaphmeepaaDoorV1
import Derived.Test.YtnjpifaphmeepaaDoorW11
import Derived.Test.YtnjpifaphmeepaaDoorS5
namespace Go.Proofs.YtnjpifaphmeepaaDoor
open Go Go.RowKit

theorem mod_step (x i : Nat) : x % 2 ^ (i + 1) = x % 2 ^ i + (if x.testBit i then 2 ^ i else 0) := by
  rw [Nat.mod_pow_succ, Nat.testBit_eq_decide_div_mod_eq]
  by_cases h : x / 2 ^ i % 2 = 1
  · simp [h]
  · have : x / 2 ^ i % 2 = 0 := by omega
    simp [this]
theorem pow_of_bit {x i : Nat} (hx : x < 256) (h : x.testBit i = true) : 2 ^ i ≤ 255 := by
  have := Nat.ge_two_pow_of_testBit h; omega

set_option maxHeartbeats 1000000 in
theorem both_any (a b : Nat) (w : World) (ha : a < 256) (hb : b < 256) :
    Calls Tryd.prog 24 #[.int .i64 (a : Int), .int .i64 (b : Int)] w fun e w' => e = .returned (.tuple #[.int .i64 ((a &&& b : Nat) : Int), .int .i64 ((a ||| b : Nat) : Int)]) ∧ w = w' := by
  have h1 : a &&& b < 256 := Nat.and_lt_two_pow (n := 8) _ hb
  have h2 : a ||| b < 256 := Nat.or_lt_two_pow (n := 8) ha hb
  go_enter Tryd.func24, Tryd.ntmps24
  go_wp2_with fail
  go_loopw [6, 7, 8] (fun x y i wr => ∃ (k X Y : Nat), k ≤ 30 ∧ i = .int .i64 k ∧ x = .int .i64 X ∧ y = .int .i64 Y ∧ X ≤ 255 ∧ Y ≤ 255 ∧ Hid (X = (a &&& b) % 2 ^ k) ∧ Hid (Y = (a ||| b) % 2 ^ k) ∧ w = wr) (fun _ _ i _ => 30 - (intOf i).toNat)
  case atStart => exact ⟨0, 0, 0, by omega, rfl, rfl, rfl, by omega, by omega, by simp [Hid, Nat.mod_one], by simp [Hid, Nat.mod_one], rfl⟩
  case round =>
    obtain ⟨k, X, Y, hk, rfl, rfl, rfl, hX, hY, HX, HY, rfl⟩ := hrel
    by_cases hlt : k < 30
    · have sa := shr_tmod a k
      have sb := shr_tmod b k
      have sX := mod_step (a &&& b) k
      have sY := mod_step (a ||| b) k
      rw [Nat.testBit_and] at sX
      rw [Nat.testBit_or] at sY
      have lX : (a &&& b) % 2 ^ (k + 1) ≤ 255 := Nat.le_trans (Nat.mod_le _ _) (by omega)
      have lY : (a ||| b) % 2 ^ (k + 1) ≤ 255 := Nat.le_trans (Nat.mod_le _ _) (by omega)
      have hw : wrap64 (2 ^ k) = 2 ^ k := wrap_pow (by omega)
      have HP := Lib.hid (nat_pow_int k)
      have HSX := Lib.hid sX
      have HSY := Lib.hid sY
      have HLX := Lib.hid lX
      have HLY := Lib.hid lY
      clear sX sY lX lY h1 h2
      cases qa : a.testBit k <;> cases qb : b.testBit k
      · rw [bitZ_false qa] at sa
        rw [bitZ_false qb] at sb
        go_wp2
        go_roundw
        case rel => exact ⟨k + 1, X, Y, by omega, by go_num, rfl, rfl, hX, hY, by show _ = _; rw [HX.out, HSX.out, qa, qb]; rfl, by show _ = _; rw [HY.out, HSY.out, qa, qb]; rfl, by trivial⟩
        case measure => simp [intOf] <;> omega
      · rw [bitZ_false qa] at sa
        rw [bitZ_true qb] at sb
        have hp := pow_of_bit hb qb
        have hp2 : (0 : Int) ≤ 2 ^ k := by rw [nat_pow_int]; exact Int.natCast_nonneg _
        have hp3 : (2 : Int) ^ k ≤ 255 := by rw [nat_pow_int]; omega
        clear hp
        go_wp2
        go_roundw
        case rel => exact ⟨k + 1, X, Y + 2 ^ k, by omega, by go_num, rfl, by rw [HP.out]; simp, hX, by have h1 := HLY.out; rw [HSY.out, qa, qb, ← HY.out] at h1; simpa using h1, by show _ = _; rw [HX.out, HSX.out, qa, qb]; rfl, by show _ = _; rw [HY.out, HSY.out, qa, qb]; rfl, by trivial⟩
        case measure => simp [intOf] <;> omega
      · rw [bitZ_true qa] at sa
        rw [bitZ_false qb] at sb
        have hp := pow_of_bit ha qa
        have hp2 : (0 : Int) ≤ 2 ^ k := by rw [nat_pow_int]; exact Int.natCast_nonneg _
        have hp3 : (2 : Int) ^ k ≤ 255 := by rw [nat_pow_int]; omega
        clear hp
        go_wp2
        go_roundw
        case rel => exact ⟨k + 1, X, Y + 2 ^ k, by omega, by go_num, rfl, by rw [HP.out]; simp, hX, by have h1 := HLY.out; rw [HSY.out, qa, qb, ← HY.out] at h1; simpa using h1, by show _ = _; rw [HX.out, HSX.out, qa, qb]; rfl, by show _ = _; rw [HY.out, HSY.out, qa, qb]; rfl, by trivial⟩
        case measure => simp [intOf] <;> omega
      · rw [bitZ_true qa] at sa
        rw [bitZ_true qb] at sb
        have hp := pow_of_bit ha qa
        have hp2 : (0 : Int) ≤ 2 ^ k := by rw [nat_pow_int]; exact Int.natCast_nonneg _
        have hp3 : (2 : Int) ^ k ≤ 255 := by rw [nat_pow_int]; omega
        clear hp
        go_wp2
        go_roundw
        case rel => exact ⟨k + 1, X + 2 ^ k, Y + 2 ^ k, by omega, by go_num, by rw [HP.out]; simp, by rw [HP.out]; simp, by have h1 := HLX.out; rw [HSX.out, qa, qb, ← HX.out] at h1; simpa using h1, by have h1 := HLY.out; rw [HSY.out, qa, qb, ← HY.out] at h1; simpa using h1, by show _ = _; rw [HX.out, HSX.out, qa, qb]; rfl, by show _ = _; rw [HY.out, HSY.out, qa, qb]; rfl, by trivial⟩
        case measure => simp [intOf] <;> omega
    · have hk30 : k = 30 := by omega
      have e1 : (a &&& b) % 2 ^ k = a &&& b := Nat.mod_eq_of_lt (Nat.lt_of_lt_of_le h1 (by rw [hk30]; decide))
      have e2 : (a ||| b) % 2 ^ k = a ||| b := Nat.mod_eq_of_lt (Nat.lt_of_lt_of_le h2 (by rw [hk30]; decide))
      have HE1 := Lib.hid e1
      have HE2 := Lib.hid e2
      clear e1 e2 hk30
      go_wp2
      go_ret2
      exact ⟨by rw [← HE1.out, ← HE2.out, ← HX.out, ← HY.out]; rfl, rfl⟩

/-- a drawn pit and a set -/
def DrawnSet (w : World) (e : Ending) (w' : World) : Prop :=
  ∃ (bs : List Blk) (g C : Nat) (s : Int), e = .returned (.tuple #[.slice (some ⟨g, 0, none⟩) bs.length C, .int .i64 s]) ∧ bs.length ≤ 9 ∧ bs.length ≤ C ∧ -1000 ≤ s ∧ s ≤ 1000 ∧ Pit w' (some ⟨g, 0, none⟩) bs ∧ Below w.heap.size w w'

set_option maxHeartbeats 1000000 in
theorem l20Blocks_any (R : Nat) (a : Option Addr) (n c : Nat) (w0 w : World) (h : Rdr w R a n c 0) (hR : w0.heap.size = R) (hb0 : Below w0.heap.size w0 w) :
    Calls Tryd.prog 70 #[.pointer (some ⟨R, 0, none⟩)] w (DrawnSet w0) := by
  subst hR
  go_enter Tryd.func70, Tryd.ntmps70
  go_wp2_with fail
  refine (l20Pit_any w0.heap.size a n c 0 9 w h (by omega) (by omega) (by omega)).mono ?_
  rintro e w2 ⟨bs, A, C, p', rfl, h9, hC, ⟨g, rfl⟩, hp, r2, hp', hu⟩
  have hb2 : Below w0.heap.size w0 w2 := hb0.trans ((hu.mono hb0.size).below (Nat.le_refl _))
  obtain ⟨P, hP⟩ : ∃ P : Nat, wrap64 (2 ^ (min (bs.length : Int) 8).toNat) = (P : Int) ∧ 1 ≤ P ∧ P ≤ 256 := by
    refine ⟨2 ^ min bs.length 8, ?_, Nat.pow_pos (by omega), pow_le_of (k := 8) (by omega)⟩
    rw [show (min (bs.length : Int) 8).toNat = min bs.length 8 by omega, wrap_pow (by omega), nat_pow_int]
  obtain ⟨hP1, hP2, hP3⟩ := hP
  have hp2 := hp w2 (Upto.refl _ _ _)
  have hup : ∀ W W', Below w0.heap.size w0 W → (∀ K, Upto K w0.heap.size W W') → Below w0.heap.size w0 W' := fun W W' hb hu => hb.trans ((hu w0.heap.size).below (Nat.le_refl _))
  have HP0 := Lib.hid hp
  have HU := Lib.hid hup
  clear hu h hp hup
  go_wp2_with fail
  refine (pick_up _ _ _ _ _ _ w2 r2 (by omega) (by omega)).mono ?_
  rintro e w3 ⟨s0, rfl, hs1, _, r3, u3⟩
  replace hs1 := hs1 (by omega)
  have hb3 := HU.out _ _ hb2 u3
  have hp3 := HP0.out w3 (u3 _)
  have U23 : Hid (∀ K, Upto K w0.heap.size w2 w3) := u3
  clear hP1 u3 r2 hb2 hp2
  go_wp2_with fail
  refine (pick_up _ _ _ _ _ _ w3 r3 (by omega) (by omega)).mono ?_
  rintro e w4 ⟨q0, rfl, hq1, _, r4, u4⟩
  replace hq1 := hq1 (by omega)
  have hb4 := HU.out _ _ hb3 u4
  have hp4 := HP0.out w4 ((U23.out _).trans (u4 _))
  have U24 : Hid (∀ K, Upto K w0.heap.size w2 w4) := fun K => (U23.out K).trans (u4 K)
  clear U23 u4 r3 hb3 hp3
  by_cases hq : 0 < q0
  · cases hv : pitOk bs
    · go_wp2_with fail
      refine (spitValid_any _ _ _ _ (by omega) hp4).mono ?_
      rintro e w5 ⟨rfl, q5, hw5⟩
      have b45 : ∀ K, Upto K w0.heap.size w4 w5 := fun K => by rw [hw5]; exact Upto.of (below_drewN (Below.refl _ _) q5)
      have r5 : Rdr w5 w0.heap.size a n c (p' + 1 + 1) := by rw [hw5]; exact r4.drewN q5
      have hb5 := HU.out _ _ hb4 b45
      have U5 : Hid (∀ K, Upto K w0.heap.size w2 w5) := fun K => (U24.out K).trans (b45 K)
      clear hw5 b45 r4 hb4 hp4 U24
      go_wp2_with fail
      refine (pick_up _ _ _ _ _ _ w5 r5 (by omega) (by omega)).mono ?_
      rintro e w6 ⟨y1, rfl, hy1, _, r6, u6⟩
      replace hy1 := hy1 (by omega)
      have hb6 := HU.out _ _ hb5 u6
      have U6 : Hid (∀ K, Upto K w0.heap.size w2 w6) := fun K => (U5.out K).trans (u6 K)
      obtain ⟨d1, e1, e2, e3, e4⟩ : ∃ d1 : Int, Int.tdiv (y1 : Int) 39 = d1 ∧ (y1 : Int) / 39 = d1 ∧ 0 ≤ d1 ∧ d1 ≤ 1 := ⟨(y1 : Int) / 39, Int.tdiv_eq_ediv_of_nonneg (by omega), rfl, by omega, by omega⟩
      clear u6 r5 hb5 U5
      go_wp2_with fail
      refine (pick_up _ _ _ _ _ _ w6 r6 (by omega) (by omega)).mono ?_
      rintro e w7 ⟨y2, rfl, hy2, _, r7, u7⟩
      replace hy2 := hy2 (by omega)
      have hb7 := HU.out _ _ hb6 u7
      have hp7 := HP0.out w7 ((U6.out _).trans (u7 _))
      obtain ⟨d2, f1, f2, f3, f4⟩ : ∃ d2 : Int, Int.tdiv (y2 : Int) 39 = d2 ∧ (y2 : Int) / 39 = d2 ∧ 0 ≤ d2 ∧ d2 ≤ 1 := ⟨(y2 : Int) / 39, Int.tdiv_eq_ediv_of_nonneg (by omega), rfl, by omega, by omega⟩
      clear u7 r6 hb6 U6
      go_wp2_with fail
      go_ret2
      exact ⟨bs, g, C, _, rfl, h9, hC, by omega, by omega, hp7, hb7⟩
    · have hl8 := pitOk_len hv
      go_wp2_with fail
      refine (spitValid_any _ _ _ _ (by omega) hp4).mono ?_
      rintro e w5 ⟨rfl, q5, hw5⟩
      have b45 : ∀ K, Upto K w0.heap.size w4 w5 := fun K => by rw [hw5]; exact Upto.of (below_drewN (Below.refl _ _) q5)
      have r5 : Rdr w5 w0.heap.size a n c (p' + 1 + 1) := by rw [hw5]; exact r4.drewN q5
      have hb5 := HU.out _ _ hb4 b45
      have U5 : Hid (∀ K, Upto K w0.heap.size w2 w5) := fun K => (U24.out K).trans (b45 K)
      have hp5 := HP0.out w5 (U5.out _)
      clear hw5 b45 r4 hb4 hp4 U24
      go_wp2_with fail
      refine (sClose_any _ _ _ _ _ (by omega) hp5).mono ?_
      rintro e w5' ⟨rfl, q5', hw5⟩
      have b45 : ∀ K, Upto K w0.heap.size w5 w5' := fun K => by rw [hw5]; exact Upto.of (below_drewN (Below.refl _ _) q5')
      have r5' : Rdr w5' w0.heap.size a n c (p' + 1 + 1) := by rw [hw5]; exact r5.drewN q5'
      have hb5' := HU.out _ _ hb5 b45
      have U5' : Hid (∀ K, Upto K w0.heap.size w2 w5') := fun K => (U5.out K).trans (b45 K)
      have hcl : -1 ≤ pitCloseF bs (s0 : Int) ∧ pitCloseF bs (s0 : Int) ≤ 256 := by
        unfold pitCloseF
        cases hv2 : setOk bs (s0 : Int)
        · simp
        · obtain ⟨_, m, em, hm⟩ := setOk_of hv2
          rw [if_pos rfl, em, Int.toNat_natCast]
          have := closeOf_lt hv hm
          have := pow_le_of (n := bs.length) (k := 8) hl8
          omega
      obtain ⟨hc1, hc2⟩ := hcl
      clear hw5 b45 r5 hb5 hp5 U5
      generalize pitCloseF bs (s0 : Int) = S at hc1 hc2
      generalize w5' = w5 at r5' hb5' U5' ⊢
      have r5 := r5'
      have hb5 := hb5'
      have U5 := U5'
      clear r5' hb5' U5'
      go_wp2_with fail
      refine (pick_up _ _ _ _ _ _ w5 r5 (by omega) (by omega)).mono ?_
      rintro e w6 ⟨y1, rfl, hy1, _, r6, u6⟩
      replace hy1 := hy1 (by omega)
      have hb6 := HU.out _ _ hb5 u6
      have U6 : Hid (∀ K, Upto K w0.heap.size w2 w6) := fun K => (U5.out K).trans (u6 K)
      obtain ⟨d1, e1, e2, e3, e4⟩ : ∃ d1 : Int, Int.tdiv (y1 : Int) 39 = d1 ∧ (y1 : Int) / 39 = d1 ∧ 0 ≤ d1 ∧ d1 ≤ 1 := ⟨(y1 : Int) / 39, Int.tdiv_eq_ediv_of_nonneg (by omega), rfl, by omega, by omega⟩
      clear u6 r5 hb5 U5
      go_wp2_with fail
      refine (pick_up _ _ _ _ _ _ w6 r6 (by omega) (by omega)).mono ?_
      rintro e w7 ⟨y2, rfl, hy2, _, r7, u7⟩
      replace hy2 := hy2 (by omega)
      have hb7 := HU.out _ _ hb6 u7
      have hp7 := HP0.out w7 ((U6.out _).trans (u7 _))
      obtain ⟨d2, f1, f2, f3, f4⟩ : ∃ d2 : Int, Int.tdiv (y2 : Int) 39 = d2 ∧ (y2 : Int) / 39 = d2 ∧ 0 ≤ d2 ∧ d2 ≤ 1 := ⟨(y2 : Int) / 39, Int.tdiv_eq_ediv_of_nonneg (by omega), rfl, by omega, by omega⟩
      clear u7 r6 hb6 U6
      go_wp2_with fail
      go_ret2
      exact ⟨bs, g, C, _, rfl, h9, hC, by omega, by omega, hp7, hb7⟩
  · have r5 := r4
    have hb5 := hb4
    have U5 := U24
    clear r4 hb4 U24 hp4
    generalize w4 = w5 at r5 hb5 U5 ⊢
    go_wp2_with fail
    refine (pick_up _ _ _ _ _ _ w5 r5 (by omega) (by omega)).mono ?_
    rintro e w6 ⟨y1, rfl, hy1, _, r6, u6⟩
    replace hy1 := hy1 (by omega)
    have hb6 := HU.out _ _ hb5 u6
    have U6 : Hid (∀ K, Upto K w0.heap.size w2 w6) := fun K => (U5.out K).trans (u6 K)
    obtain ⟨d1, e1, e2, e3, e4⟩ : ∃ d1 : Int, Int.tdiv (y1 : Int) 39 = d1 ∧ (y1 : Int) / 39 = d1 ∧ 0 ≤ d1 ∧ d1 ≤ 1 := ⟨(y1 : Int) / 39, Int.tdiv_eq_ediv_of_nonneg (by omega), rfl, by omega, by omega⟩
    clear u6 r5 hb5 U5
    go_wp2_with fail
    refine (pick_up _ _ _ _ _ _ w6 r6 (by omega) (by omega)).mono ?_
    rintro e w7 ⟨y2, rfl, hy2, _, r7, u7⟩
    replace hy2 := hy2 (by omega)
    have hb7 := HU.out _ _ hb6 u7
    have hp7 := HP0.out w7 ((U6.out _).trans (u7 _))
    obtain ⟨d2, f1, f2, f3, f4⟩ : ∃ d2 : Int, Int.tdiv (y2 : Int) 39 = d2 ∧ (y2 : Int) / 39 = d2 ∧ 0 ≤ d2 ∧ d2 ≤ 1 := ⟨(y2 : Int) / 39, Int.tdiv_eq_ediv_of_nonneg (by omega), rfl, by omega, by omega⟩
    clear u7 r6 hb6 U6
    go_wp2_with fail
    go_ret2
    exact ⟨bs, g, C, _, rfl, h9, hC, by omega, by omega, hp7, hb7⟩

theorem drawSet_tuple {f : FuncId} {args : Array Value} {w : World} (h : Calls Tryd.prog f args w (DrawnSet w)) : Calls Tryd.prog f args w (DrawnSet w) := h
theorem drawPitMay_any (a : Option Addr) (n c : Nat) (w : World) (hc : n ≤ c) (hn : n ≤ 1048576) (hb : Bytes w a n) : Calls Tryd.prog 47 #[.slice a n c] w (DrawnSet w) := by
  go_enter Tryd.func47, Tryd.ntmps47
  go_wp2_with fail
  refine (l20Open_any a n c w hc hn hb).mono ?_
  rintro e w1 ⟨n', c', rfl, hr, b1⟩
  go_wp2_with fail
  refine (l20Blocks_any w.heap.size a n' c' w w1 hr rfl b1).mono ?_
  rintro e w2 ⟨bs, g, C, s, rfl, h1, h2, h3, h4, h5, h6⟩
  go_wp2_with fail
  go_ret2
  exact ⟨bs, g, C, s, rfl, h1, h2, h3, h4, h5, h6⟩
theorem drawPitWorth_any (a : Option Addr) (n c : Nat) (w : World) (hc : n ≤ c) (hn : n ≤ 1048576) (hb : Bytes w a n) : Calls Tryd.prog 57 #[.slice a n c] w (DrawnSet w) := by
  go_enter Tryd.func57, Tryd.ntmps57
  go_wp2_with fail
  refine (l20Open_any a n c w hc hn hb).mono ?_
  rintro e w1 ⟨n', c', rfl, hr, b1⟩
  go_wp2_with fail
  refine (l20Blocks_any w.heap.size a n' c' w w1 hr rfl b1).mono ?_
  rintro e w2 ⟨bs, g, C, s, rfl, h1, h2, h3, h4, h5, h6⟩
  go_wp2_with fail
  go_ret2
  exact ⟨bs, g, C, s, rfl, h1, h2, h3, h4, h5, h6⟩
theorem drawPitClose_any (a : Option Addr) (n c : Nat) (w : World) (hc : n ≤ c) (hn : n ≤ 1048576) (hb : Bytes w a n) : Calls Tryd.prog 21 #[.slice a n c] w (DrawnSet w) := by
  go_enter Tryd.func21, Tryd.ntmps21
  go_wp2_with fail
  refine (l20Open_any a n c w hc hn hb).mono ?_
  rintro e w1 ⟨n', c', rfl, hr, b1⟩
  go_wp2_with fail
  refine (l20Blocks_any w.heap.size a n' c' w w1 hr rfl b1).mono ?_
  rintro e w2 ⟨bs, g, C, s, rfl, h1, h2, h3, h4, h5, h6⟩
  go_wp2_with fail
  go_ret2
  exact ⟨bs, g, C, s, rfl, h1, h2, h3, h4, h5, h6⟩
theorem drawPitCut_any (a : Option Addr) (n c : Nat) (w : World) (hc : n ≤ c) (hn : n ≤ 1048576) (hb : Bytes w a n) : Calls Tryd.prog 26 #[.slice a n c] w (DrawnSet w) := by
  go_enter Tryd.func26, Tryd.ntmps26
  go_wp2_with fail
  refine (l20Open_any a n c w hc hn hb).mono ?_
  rintro e w1 ⟨n', c', rfl, hr, b1⟩
  go_wp2_with fail
  refine (l20Blocks_any w.heap.size a n' c' w w1 hr rfl b1).mono ?_
  rintro e w2 ⟨bs, g, C, s, rfl, h1, h2, h3, h4, h5, h6⟩
  go_wp2_with fail
  go_ret2
  exact ⟨bs, g, C, s, rfl, h1, h2, h3, h4, h5, h6⟩
theorem drawPitOrder_any (a : Option Addr) (n c : Nat) (w : World) (hc : n ≤ c) (hn : n ≤ 1048576) (hb : Bytes w a n) : Calls Tryd.prog 30 #[.slice a n c] w (DrawnSet w) := by
  go_enter Tryd.func30, Tryd.ntmps30
  go_wp2_with fail
  refine (l20Open_any a n c w hc hn hb).mono ?_
  rintro e w1 ⟨n', c', rfl, hr, b1⟩
  go_wp2_with fail
  refine (l20Blocks_any w.heap.size a n' c' w w1 hr rfl b1).mono ?_
  rintro e w2 ⟨bs, g, C, s, rfl, h1, h2, h3, h4, h5, h6⟩
  go_wp2_with fail
  go_ret2
  exact ⟨bs, g, C, s, rfl, h1, h2, h3, h4, h5, h6⟩
theorem drawPitBest_any (a : Option Addr) (n c : Nat) (w : World) (hc : n ≤ c) (hn : n ≤ 1048576) (hb : Bytes w a n) : Calls Tryd.prog 52 #[.slice a n c] w (DrawnPit w) := by
  go_enter Tryd.func52, Tryd.ntmps52
  go_wp2_with fail
  refine (l20Open_any a n c w hc hn hb).mono ?_
  rintro e w1 ⟨n', c', rfl, hr, b1⟩
  go_wp2_with fail
  refine (l20Pit_any w.heap.size a n' c' 0 9 w1 hr (by omega) (by omega) (by omega)).mono ?_
  rintro e w2 ⟨bs, A, C, p', rfl, h9, hC, ⟨g, rfl⟩, hp, _, _, hu⟩
  have hp2 := hp w2 (Upto.refl _ _ _)
  have hb2 : Below w.heap.size w w2 := b1.trans ((hu.mono (by have := b1.size; omega)).below (Nat.le_refl _))
  clear hp hu hr
  go_wp2_with fail
  go_ret
  exact ⟨bs, g, C, rfl, h9, hC, hp2, hb2⟩
theorem drawPitMost_any (a : Option Addr) (n c : Nat) (w : World) (hc : n ≤ c) (hn : n ≤ 1048576) (hb : Bytes w a n) : Calls Tryd.prog 40 #[.slice a n c] w (DrawnPit w) := by
  go_enter Tryd.func40, Tryd.ntmps40
  go_wp2_with fail
  refine (l20Open_any a n c w hc hn hb).mono ?_
  rintro e w1 ⟨n', c', rfl, hr, b1⟩
  go_wp2_with fail
  refine (l20Pit_any w.heap.size a n' c' 0 9 w1 hr (by omega) (by omega) (by omega)).mono ?_
  rintro e w2 ⟨bs, A, C, p', rfl, h9, hC, ⟨g, rfl⟩, hp, _, _, hu⟩
  have hp2 := hp w2 (Upto.refl _ _ _)
  have hb2 : Below w.heap.size w w2 := b1.trans ((hu.mono (by have := b1.size; omega)).below (Nat.le_refl _))
  clear hp hu hr
  go_wp2_with fail
  go_ret
  exact ⟨bs, g, C, rfl, h9, hC, hp2, hb2⟩
theorem drawPitFull_any (a : Option Addr) (n c : Nat) (w : World) (hc : n ≤ c) (hn : n ≤ 1048576) (hb : Bytes w a n) : Calls Tryd.prog 36 #[.slice a n c] w (DrawnPit w) := by
  go_enter Tryd.func36, Tryd.ntmps36
  go_wp2_with fail
  refine (l20Open_any a n c w hc hn hb).mono ?_
  rintro e w1 ⟨n', c', rfl, hr, b1⟩
  go_wp2_with fail
  refine (l20Pit_any w.heap.size a n' c' 0 9 w1 hr (by omega) (by omega) (by omega)).mono ?_
  rintro e w2 ⟨bs, A, C, p', rfl, h9, hC, ⟨g, rfl⟩, hp, _, _, hu⟩
  have hp2 := hp w2 (Upto.refl _ _ _)
  have hb2 : Below w.heap.size w w2 := b1.trans ((hu.mono (by have := b1.size; omega)).below (Nat.le_refl _))
  clear hp hu hr
  go_wp2_with fail
  go_ret
  exact ⟨bs, g, C, rfl, h9, hC, hp2, hb2⟩
theorem drawPayMost_any (a : Option Addr) (n c : Nat) (w : World) (hc : n ≤ c) (hn : n ≤ 1048576) (hb : Bytes w a n) : Calls Tryd.prog 62 #[.slice a n c] w (DrawnPit w) := by
  go_enter Tryd.func62, Tryd.ntmps62
  go_wp2_with fail
  refine (l20Open_any a n c w hc hn hb).mono ?_
  rintro e w1 ⟨n', c', rfl, hr, b1⟩
  go_wp2_with fail
  refine (l20Pit_any w.heap.size a n' c' 0 9 w1 hr (by omega) (by omega) (by omega)).mono ?_
  rintro e w2 ⟨bs, A, C, p', rfl, h9, hC, ⟨g, rfl⟩, hp, _, _, hu⟩
  have hp2 := hp w2 (Upto.refl _ _ _)
  have hb2 : Below w.heap.size w w2 := b1.trans ((hu.mono (by have := b1.size; omega)).below (Nat.le_refl _))
  clear hp hu hr
  go_wp2_with fail
  go_ret
  exact ⟨bs, g, C, rfl, h9, hC, hp2, hb2⟩
end Go.Proofs.YtnjpifaphmeepaaDoor
