/- Walks: what is equal is found equal: eqIntS, eqIntSS, eqBlock, eqBlockS. -/
import Derived.Test.YteadmhigkpecgaaProg
import Derived.Test.YteadmhigkpecgaaPit
import Derived.StillTailTactics
namespace Go.Proofs.Yteadmhigkpecgaa
open Go Go.RowKit

theorem eqIntS_same (a1 a2 : Option Addr) (c1 c2 : Nat) (xs : List Int) (w : World) (hl : xs.length ≤ 9223372036854775807) (h1 : Ints w a1 xs) (h2 : Ints w a2 xs) :
    Calls Try.prog 25 #[.slice a1 xs.length c1, .slice a2 xs.length c2] w fun e w' => e = .returned (.bool true) ∧ ∃ q, w' = w.drewN q := by
  go_enter Try.func25, Try.ntmps25
  go_wp2_with fail
  go_loopw [5] (fun i wr => ∃ k : Nat, k ≤ xs.length ∧ i = .int .i64 k ∧ ∃ q, wr = w.drewN q) (fun i _ => xs.length - (intOf i).toNat)
  case atStart => exact ⟨0, by omega, rfl, 0, rfl⟩
  case round =>
    obtain ⟨k, hk, rfl, q, rfl⟩ := hrel
    by_cases hlt : k < xs.length
    · obtain ⟨b, off, rfl, hbw, hc⟩ := Ints.at h1 hlt
      obtain ⟨b', off', rfl, hbw', hc'⟩ := Ints.at h2 hlt
      have d1 := hc k hlt
      have d2 := hc' k hlt
      have hne : (nth xs k != nth xs k) = false := by simp
      clear hc hc' h1 h2
      go_wp2
      go_quiet (fail)
      go_wp2
      go_roundw
      case rel => exact ⟨k + 1, by omega, by go_num, _, rfl⟩
      case measure => simp [intOf] <;> omega
    · go_wp2
      go_ret
      exact ⟨rfl, _, rfl⟩

theorem eqIntSS_same (a1 a2 : Option Addr) (c1 c2 : Nat) (xs : List (List Int)) (w : World) (hl : xs.length ≤ 1048576) (h1 : Tab w a1 xs) (h2 : Tab w a2 xs) :
    Calls Try.prog 13 #[.slice a1 xs.length c1, .slice a2 xs.length c2] w fun e w' => e = .returned (.bool true) ∧ Below w.heap.size w w' := by
  go_enter Try.func13, Try.ntmps13
  go_wp2_with fail
  go_loopw [5] (fun i wr => ∃ k : Nat, k ≤ xs.length ∧ i = .int .i64 k ∧ Below w.heap.size w wr) (fun i _ => xs.length - (intOf i).toNat)
  case atStart => exact ⟨0, by omega, rfl, Below.refl _ _⟩
  case round =>
    obtain ⟨k, hk, rfl, hb⟩ := hrel
    by_cases hlt : k < xs.length
    · have hz := hb.size
      obtain ⟨b, off, A, C, rfl, hbw, d1, e1, e2, e3, e4⟩ := Tab.at (h1.below hb) hlt
      obtain ⟨b', off', A', C', rfl, hbw', d1', e1', e2', e3', e4'⟩ := Tab.at (h2.below hb) hlt
      clear h1 h2
      go_wp2_with fail
      go_still_tail 8, (by kernel_rfl)
      change wpList _ _ _ _ _ wr.drew
      go_wp2_with (go_at_call 25; refine (eqIntS_same _ _ _ _ _ _ (by omega) (e4.drew) (e4'.drew)).mono ?_; rintro e w' ⟨rfl, q, rfl⟩)
      go_roundw
      case rel => exact ⟨k + 1, by omega, by go_num, (by repeat (first | with_reducible assumption | exact Below.refl _ _ | refine below_drewN ?_ _ | refine Below.drew ?_ | refine Below.alloc ?_ (by first | omega | (simp; done) | (simp; omega)) _ | refine Below.setCell ?_ (by first | omega | (simp; done) | (simp; omega)) _))⟩
      case measure => simp [intOf] <;> omega
    · go_wp2
      go_ret
      exact ⟨rfl, hb⟩

theorem eqBlock_same (A1 A2 : Option Addr) (c1 c2 : Nat) (x : Int) (xs : List Int) (w : World) (hl : xs.length ≤ 1048576) (h1 : Ints w A1 xs) (h2 : Ints w A2 xs) :
    Calls Try.prog 24 #[.agg #[.int .i64 x, .slice A1 xs.length c1], .agg #[.int .i64 x, .slice A2 xs.length c2]] w fun e w' => e = .returned (.bool true) ∧ Below w.heap.size w w' := by
  have hne : (x != x) = false := by simp
  go_enter Try.func24, Try.ntmps24
  go_wp2_with (go_at_call 25; refine (eqIntS_same _ _ _ _ _ _ (by omega) ((h1.alloc _).alloc _) ((h2.alloc _).alloc _)).mono ?_; rintro e w' ⟨rfl, q, rfl⟩)
  go_ret
  exact ⟨rfl, (by repeat (first | with_reducible assumption | exact Below.refl _ _ | refine below_drewN ?_ _ | refine Below.drew ?_ | refine Below.alloc ?_ (by first | omega | (simp; done) | (simp; omega)) _ | refine Below.setCell ?_ (by first | omega | (simp; done) | (simp; omega)) _))⟩

theorem eqBlockS_same (a1 a2 : Option Addr) (c1 c2 : Nat) (xs : List Blk) (w : World) (hl : xs.length ≤ 1048576) (h1 : Pit w a1 xs) (h2 : Pit w a2 xs) :
    Calls Try.prog 12 #[.slice a1 xs.length c1, .slice a2 xs.length c2] w fun e w' => e = .returned (.bool true) ∧ Below w.heap.size w w' := by
  go_enter Try.func12, Try.ntmps12
  go_wp2_with fail
  go_loopw [5] (fun i wr => ∃ k : Nat, k ≤ xs.length ∧ i = .int .i64 k ∧ Below w.heap.size w wr) (fun i _ => xs.length - (intOf i).toNat)
  case atStart => exact ⟨0, by omega, rfl, Below.refl _ _⟩
  case round =>
    obtain ⟨k, hk, rfl, hb⟩ := hrel
    by_cases hlt : k < xs.length
    · have hz := hb.size
      obtain ⟨b, off, A, C, rfl, hbw, d1, e1, e2, e3, e4, e5⟩ := Pit.at (h1.below hb) hlt
      obtain ⟨b', off', A', C', rfl, hbw', d1', e1', e2', e3', e4', e5'⟩ := Pit.at (h2.below hb) hlt
      clear h1 h2
      go_wp2_with fail
      go_still_tail 8, (by kernel_rfl)
      change wpList _ _ _ _ _ wr.drew
      go_wp2_with (go_at_call 24; refine (eqBlock_same _ _ _ _ _ _ _ (by omega) (e5.drew) (e5'.drew)).mono ?_; rintro e w' ⟨rfl, hb2⟩)
      go_roundw
      case rel => exact ⟨k + 1, by omega, by go_num, hb.drew.trans (hb2.mono hz)⟩
      case measure => simp [intOf] <;> omega
    · go_wp2
      go_ret
      exact ⟨rfl, hb⟩
end Go.Proofs.Yteadmhigkpecgaa
