/- Walks: the laws' marks on surveys, and that they are held. -/
import Derived.Test.YtgggbapcpjfljaaGreatDoorG14
namespace Go.Proofs.YtgggbapcpjfljaaGreatDoor
open Go Go.RowKit Go.Sort

theorem grown_alloc_first {w w' : World} {o : Obj} {row : Option Nat} (h : (w.alloc o).grownBy w' row) : w.grownBy w' row :=
  (World.grownBy_alloc w o row).trans h

theorem markSurvey_any (B : Nat) (a : Option Addr) (c : Nat) (st : Int) (l : List Lg) (k : Int) (w : World) (hl : l.length ≤ 1048580) (hk0 : 0 ≤ k) (hk : k ≤ 100000000) (ho : OwnL w B (.slice a l.length c) l) :
    Calls Tryz.prog 21 #[.agg #[.int .i64 st, .slice a l.length c], .int .i64 k] w fun e w' => e = .returned (.int .i64 (k + 5 * (l.length : Int))) ∧ OwnL w' B (.slice a l.length c) (marks k l.length) ∧ w.grownBy w' (Value.slice a 0 0).ownBlock := by
  go_enter Tryz.func21, Tryz.ntmps21
  go_wp2_with fail
  refine (markLegS_any B _ _ l k _ hl hk0 hk (ho.alloc _)).mono ?_
  rintro e w1 ⟨rfl, o1, g1⟩
  have g2 := grown_alloc_first g1
  clear g1
  go_wp2_with fail
  go_ret
  exact ⟨rfl, o1, g2⟩
theorem heldLegS_any (a : Option Addr) (c n : Nat) (k : Int) (w : World) (hl : n ≤ 1048580) (hk0 : 0 ≤ k) (hk : k ≤ 100000000) (hs : Legs w a (marks k n)) :
    Calls Tryz.prog 52 #[.slice a n c, .int .i64 k] w fun e w' => e = .returned (.int .i64 (k + 5 * (n : Int))) ∧ w = w' := by
  go_enter Tryz.func52, Tryz.ntmps52
  go_wp2_with fail
  go_loopw [1, 5] (fun t i wr => ∃ j : Nat, j ≤ n ∧ i = .int .i64 j ∧ t = .int .i64 (k + 5 * (j : Int)) ∧ w = wr) (fun _ i _ => n - (intOf i).toNat)
  case atStart => exact ⟨0, by omega, rfl, by simp, rfl⟩
  case round =>
    obtain ⟨j, hj, rfl, rfl, rfl⟩ := hrel
    by_cases hlt : j < n
    · obtain ⟨b, off, rfl, hb, m0, m1, m2, m3, m4⟩ := Legs.at hs (k := j) (by rw [marks_len]; exact hlt)
      rw [marks_nth _ _ _ hlt] at m0 m1 m2 m3 m4
      simp only [mark1] at m0 m1 m2 m3 m4
      clear hs
      obtain ⟨m, hm⟩ : ∃ m, m = k + 5 * (j : Int) := ⟨_, rfl⟩
      rw [← hm] at m0 m1 m2 m3 m4 ⊢
      have HM := Lib.hid hm
      have hm1 : 0 ≤ m := by omega
      have hm2 : m ≤ 200000000 := by omega
      clear hm
      go_wp2_with fail
      go_roundw
      case rel => exact ⟨j + 1, by omega, by go_num, by rw [HM.out]; congr 1; omega, by trivial⟩
      case measure => simp [intOf] <;> omega
    · have e : j = n := by omega
      subst e
      go_wp2_with fail
      go_ret
      exact ⟨rfl, rfl⟩
theorem heldSurvey_any (a : Option Addr) (c n : Nat) (st k : Int) (w : World) (hl : n ≤ 1048580) (hk0 : 0 ≤ k) (hk : k ≤ 100000000) (hs : Legs w a (marks k n)) :
    Calls Tryz.prog 23 #[.agg #[.int .i64 st, .slice a n c], .int .i64 k] w fun e w' => e = .returned (.int .i64 (k + 5 * (n : Int))) ∧ Below w.heap.size w w' := by
  have hpos : 0 ≤ k + 5 * (n : Int) := by omega
  go_enter Tryz.func23, Tryz.ntmps23
  go_wp2_with fail
  refine (heldLegS_any _ _ n k _ hl hk0 hk (hs.alloc _)).mono ?_
  rintro e w1 ⟨rfl, rfl⟩
  go_wp2_with fail
  go_ret
  exact ⟨rfl, (by repeat (first | with_reducible assumption | exact Below.refl _ _ | refine below_drewN ?_ _ | refine Below.drew ?_ | refine Below.alloc ?_ (by first | omega | (simp; done) | (simp; omega)) _ | refine Below.setCell ?_ (by first | omega | (simp; done) | (simp; omega)) _))⟩
end Go.Proofs.YtgggbapcpjfljaaGreatDoor
