/- Walks: how much the laws' arguments hold: szIntS, szIntSS, szBlock, szBlockS. -/
import Derived.Test.YteadmhigkpecgaaProg
import Derived.Test.YteadmhigkpecgaaPit
namespace Go.Proofs.Yteadmhigkpecgaa
open Go Go.RowKit

theorem szIntS_any (a : Option Addr) (n c : Nat) (left : Int) (w : World) (hn : n ≤ 9223372036854775807) (h0 : 0 ≤ left) (h1 : left ≤ 1048576) :
    Calls Try.prog 19 #[.slice a n c, .int .i64 left] w fun e w' => e = .returned (.int .i64 (szL n left)) ∧ w = w' := by
  by_cases h : left - n < 0
  · go_enter Try.func19, Try.ntmps19
    go_wp2
    go_ret
    exact ⟨by simp [szL, h], rfl⟩
  · go_enter Try.func19, Try.ntmps19
    go_wp2
    go_ret
    exact ⟨by simp only [szL]; rw [if_neg (by omega)]; rfl, rfl⟩

theorem szL_range (n : Nat) (left : Int) (h1 : left ≤ 1048576) : -1 ≤ szL n left ∧ szL n left ≤ 1048576 := by
  unfold szL; split <;> omega

theorem szIntSS_any (a : Option Addr) (c : Nat) (xs : List (List Int)) (left : Int) (w : World) (hl : xs.length ≤ 9223372036854775807) (hs : RawTab w a xs) (h0 : 0 ≤ left) (h1 : left ≤ 1048576) :
    Calls Try.prog 7 #[.slice a xs.length c, .int .i64 left] w fun e w' => e = .returned (.int .i64 (szTab xs left)) ∧ w = w' := by
  by_cases h : left - xs.length < 0
  · go_enter Try.func7, Try.ntmps7
    go_wp2
    go_ret
    exact ⟨by simp [szTab, h], rfl⟩
  · have HS : Hid (szTab xs left = szTabFrom (left - xs.length) xs) := by simp [Hid, szTab, h]
    go_enter Try.func7, Try.ntmps7
    go_wp2_with fail
    go_loopw [1, 5] (fun t i wr => ∃ (k : Nat) (T : Int), k ≤ xs.length ∧ i = .int .i64 k ∧ t = .int .i64 T ∧ 0 ≤ T ∧ T ≤ 1048576 ∧ Hid (szTab xs left = szTabFrom T (xs.drop k)) ∧ w = wr) (fun _ i _ => xs.length - (intOf i).toNat)
    case atStart => exact ⟨0, _, by omega, rfl, rfl, by omega, by omega, HS, rfl⟩
    case round =>
      obtain ⟨k, T, hk, rfl, rfl, ht0, ht1, HR, rfl⟩ := hrel
      by_cases hlt : k < xs.length
      · obtain ⟨b, off, A, C, rfl, hb, h2, h3, h4, h5⟩ := RawTab.at hs hlt
        clear hs
        have hd := drop_nth hlt
        have HD := Lib.hid hd
        clear hd
        obtain ⟨hr1, hr2⟩ := szL_range (nth xs k).length T ht1
        by_cases hx : szL (nth xs k).length T < 0
        · go_wp2_with (go_at_call 19; refine (szIntS_any _ _ _ _ _ (by omega) (by omega) (by omega)).mono ?_; rintro e w' ⟨rfl, rfl⟩)
          go_ret
          exact ⟨by rw [HR.out, HD.out]; simp [szTabFrom, hx], rfl⟩
        · go_wp2_with (go_at_call 19; refine (szIntS_any _ _ _ _ _ (by omega) (by omega) (by omega)).mono ?_; rintro e w' ⟨rfl, rfl⟩)
          go_roundw
          case rel => exact ⟨k + 1, _, by omega, by go_num, rfl, by omega, by omega, by show _ = _; rw [HR.out, HD.out]; simp only [szTabFrom]; rw [if_neg (by omega)], by trivial⟩
          case measure => simp [intOf] <;> omega
      · go_wp2
        go_ret
        exact ⟨by rw [HR.out, List.drop_eq_nil_of_le (by omega)]; rfl, rfl⟩

theorem szBlock_any (x : Int) (A : Option Addr) (n c : Nat) (left : Int) (w : World) (hn : n ≤ 9223372036854775807) (h0 : 0 ≤ left) (h1 : left ≤ 1048576) :
    Calls Try.prog 18 #[.agg #[.int .i64 x, .slice A n c], .int .i64 left] w fun e w' => e = .returned (.int .i64 (szL n left)) ∧ Below w.heap.size w w' := by
  obtain ⟨hr1, hr2⟩ := szL_range n left h1
  by_cases hx : szL n left < 0
  · go_enter Try.func18, Try.ntmps18
    go_wp2_with (go_at_call 19; refine (szIntS_any _ _ _ _ _ (by omega) (by omega) (by omega)).mono ?_; rintro e w' ⟨rfl, rfl⟩)
    go_ret
    refine ⟨?_, (by repeat (first | with_reducible assumption | exact Below.refl _ _ | refine below_drewN ?_ _ | refine Below.drew ?_ | refine Below.alloc ?_ (by first | omega | (simp; done) | (simp; omega)) _ | refine Below.setCell ?_ (by first | omega | (simp; done) | (simp; omega)) _))⟩
    simp only [szL] at hx ⊢; split at hx <;> simp_all
  · go_enter Try.func18, Try.ntmps18
    go_wp2_with (go_at_call 19; refine (szIntS_any _ _ _ _ _ (by omega) (by omega) (by omega)).mono ?_; rintro e w' ⟨rfl, rfl⟩)
    go_ret
    exact ⟨rfl, (by repeat (first | with_reducible assumption | exact Below.refl _ _ | refine below_drewN ?_ _ | refine Below.drew ?_ | refine Below.alloc ?_ (by first | omega | (simp; done) | (simp; omega)) _ | refine Below.setCell ?_ (by first | omega | (simp; done) | (simp; omega)) _))⟩

def needsOf (bs : List Blk) : List (List Int) := bs.map Blk.needs
theorem nth_needsOf {bs : List Blk} {k : Nat} (h : k < bs.length) : nth (needsOf bs) k = (nth bs k).needs := nth_map h

theorem szBlockS_any (a : Option Addr) (c : Nat) (xs : List Blk) (left : Int) (w : World) (hl : xs.length ≤ 9223372036854775807) (hs : RawPit w a xs) (h0 : 0 ≤ left) (h1 : left ≤ 1048576) :
    Calls Try.prog 6 #[.slice a xs.length c, .int .i64 left] w fun e w' => e = .returned (.int .i64 (szTab (needsOf xs) left)) ∧ Below w.heap.size w w' := by
  have hln : (needsOf xs).length = xs.length := by simp [needsOf]
  by_cases h : left - xs.length < 0
  · go_enter Try.func6, Try.ntmps6
    go_wp2
    go_ret
    exact ⟨by simp [szTab, hln, h], Below.refl _ _⟩
  · have HS : Hid (szTab (needsOf xs) left = szTabFrom (left - xs.length) (needsOf xs)) := by simp [Hid, szTab, hln, h]
    have HL := Lib.hid hln
    clear hln
    go_enter Try.func6, Try.ntmps6
    go_wp2_with fail
    go_loopw [1, 5] (fun t i wr => ∃ (k : Nat) (T : Int), k ≤ xs.length ∧ i = .int .i64 k ∧ t = .int .i64 T ∧ 0 ≤ T ∧ T ≤ 1048576 ∧ Hid (szTab (needsOf xs) left = szTabFrom T ((needsOf xs).drop k)) ∧ Below w.heap.size w wr) (fun _ i _ => xs.length - (intOf i).toNat)
    case atStart => exact ⟨0, _, by omega, rfl, rfl, by omega, by omega, HS, Below.refl _ _⟩
    case round =>
      obtain ⟨k, T, hk, rfl, rfl, ht0, ht1, HR, hb⟩ := hrel
      have hz := hb.size
      by_cases hlt : k < xs.length
      · obtain ⟨b, off, A, C, rfl, hbw, h2, h3, h4, h5, h6⟩ := RawPit.at (hs.below hb) hlt
        clear hs
        have hd := drop_nth (xs := needsOf xs) (k := k) (by rw [HL.out]; exact hlt)
        rw [nth_needsOf hlt] at hd
        have HD := Lib.hid hd
        clear hd
        obtain ⟨hr1, hr2⟩ := szL_range (nth xs k).needs.length T ht1
        by_cases hx : szL (nth xs k).needs.length T < 0
        · go_wp2_with (go_at_call 18; refine (szBlock_any _ _ _ _ _ _ (by omega) (by omega) (by omega)).mono ?_; rintro e w' ⟨rfl, hb2⟩)
          go_ret
          exact ⟨by rw [HR.out, HD.out]; simp [szTabFrom, hx], hb.trans (hb2.mono hz)⟩
        · go_wp2_with (go_at_call 18; refine (szBlock_any _ _ _ _ _ _ (by omega) (by omega) (by omega)).mono ?_; rintro e w' ⟨rfl, hb2⟩)
          go_roundw
          case rel => exact ⟨k + 1, _, by omega, by go_num, rfl, by omega, by omega, by show _ = _; rw [HR.out, HD.out]; simp only [szTabFrom]; rw [if_neg (by omega)], hb.trans (hb2.mono hz)⟩
          case measure => simp [intOf] <;> omega
      · go_wp2
        go_ret
        exact ⟨by rw [HR.out, List.drop_eq_nil_of_le (by rw [HL.out]; omega)]; rfl, hb⟩
end Go.Proofs.Yteadmhigkpecgaa
