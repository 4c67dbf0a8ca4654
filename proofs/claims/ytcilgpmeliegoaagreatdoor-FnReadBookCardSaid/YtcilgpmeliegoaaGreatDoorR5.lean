/- Walks of draws: l20Spoil, DrawReadSurvey. -/
import Derived.Test.YtcilgpmeliegoaaGreatDoorR2
import Derived.Test.YtcilgpmeliegoaaGreatDoorR1
import Derived.Test.YtcilgpmeliegoaaGreatDoorT1
set_option linter.unusedSimpArgs false
set_option linter.unusedVariables false
namespace Go.Proofs.YtcilgpmeliegoaaGreatDoor
open Go Go.RowKit Go.Sort

def strs6 : List Value := [.string ⟨#[]⟩, .string ⟨#[48]⟩, .string ⟨#[32]⟩, .string ⟨#[10]⟩, .string ⟨#[59]⟩, .string ⟨#[49]⟩]
theorem strs6_get (k : Nat) (h : k < 6) : ∃ x : ByteArray, x.size ≤ 1 ∧ strs6[k]? = some (.string x) := by
  have : k = 0 ∨ k = 1 ∨ k = 2 ∨ k = 3 ∨ k = 4 ∨ k = 5 := by omega
  rcases this with rfl | rfl | rfl | rfl | rfl | rfl
  · exact ⟨⟨#[]⟩, by decide, rfl⟩
  · exact ⟨⟨#[48]⟩, by decide, rfl⟩
  · exact ⟨⟨#[32]⟩, by decide, rfl⟩
  · exact ⟨⟨#[10]⟩, by decide, rfl⟩
  · exact ⟨⟨#[59]⟩, by decide, rfl⟩
  · exact ⟨⟨#[49]⟩, by decide, rfl⟩
/-- a text drawn with the reader -/
def DrawnT (M : Nat) (R : Nat) (a : Option Addr) (n c p : Nat) (w : World) (e : Ending) (w' : World) : Prop := ∃ (u : ByteArray) (q : Nat), e = .returned (.string u) ∧ u.size ≤ M ∧ q ≤ p + 3 ∧ Rdr w' R a n c q ∧ Upto w.heap.size R w w'

set_option maxRecDepth 100000 in
set_option maxHeartbeats 4000000 in
theorem l20Spoil_any (R : Nat) (a : Option Addr) (n c p : Nat) (s : ByteArray) (w : World) (h : Rdr w R a n c p) (hp : p ≤ 100000) (hs : s.size ≤ 100000) :
    Calls Tryz.prog 36 #[.pointer (some ⟨R, 0, none⟩), .string s] w (DrawnT (s.size + 1) R a n c p w) := by
  by_cases h0 : s.size = 0
  · have h0' : ((s.size : Int) == 0) = true := by simp [h0]
    clear h0
    go_enter Tryz.func36, Tryz.ntmps36
    go_wp2_with fail
    go_ret
    exact ⟨_, p, rfl, by show 1 ≤ _; omega, by omega, h, Upto.refl _ _ _⟩
  · have h0' : ((s.size : Int) == 0) = false := by simpa using h0
    go_enter Tryz.func36, Tryz.ntmps36
    go_wp2_with fail
    refine (pick_up _ _ _ _ _ _ _ h (by omega) (by omega)).mono ?_
    rintro e V ⟨k, rfl, hk, -, h1, u1⟩
    replace hk := hk (by omega)
    have hRV : R < V.heap.size := h1.lt
    have neVa : V.heap.size ≠ R := by omega
    have U0 := u1 w.heap.size
    have hwV : w.heap.size ≤ V.heap.size := U0.size
    have hk1 : k ≤ s.size := by omega
    have hk2 : (k : Int) ≤ (s.size : Int) := by omega
    have hk3 : IntKind.i64.wrap ((k : Int) + 1) = (k : Int) + 1 := IntWalk.i64_in _ (by omega)
    have hk4 : k + 1 ≤ s.size := by omega
    have hk5 : (k : Int) + 1 ≤ (s.size : Int) := by omega
    have hk6 : ((k : Int) + 1).toNat = k + 1 := by omega
    have hk7 : (0 : Int) ≤ (k : Int) + 1 := by omega
    have HU0 := Lib.hid U0
    clear h u1 U0
    have U : Upto V.heap.size R V V := Upto.refl _ _ _
    go_upto_region 4 with fail
    go_region_law
      ((go_simp; go_at_call 35; refine (pick_up _ _ _ _ _ _ _ (h1.below (by repeat (first | with_reducible assumption | exact Below.refl _ _ | refine below_drewN ?_ _ | refine Below.drew ?_ | refine Below.alloc ?_ (by first | omega | (simp; done) | (simp; omega)) _ | refine Below.setCell ?_ (by first | omega | (simp; done) | (simp; omega)) _))) (by omega) (by omega)).mono ?_; rintro e w2 ⟨j, rfl, hj, -, h2, u2⟩; replace hj := hj (by omega); obtain ⟨x, hx1, hx⟩ := strs6_get j (by omega); have hkl : ([.string ⟨#[]⟩, .string ⟨#[48]⟩, .string ⟨#[32]⟩, .string ⟨#[10]⟩, .string ⟨#[59]⟩, .string ⟨#[49]⟩] : List Value)[j]? = some (.string x) := hx; have hs1 : ¬ 9223372036854775807 < k + x.size := (by omega); have hs2 : ¬ 9223372036854775807 < k + x.size + (s.size - (k + 1)) := (by omega); have hj0 : (0 : Int) ≤ (j : Int) := (by omega); have hj6 : (j : Int) < 6 := (by omega); replace U : Upto V.heap.size R V w2 := Upto.next (by repeat (first | with_reducible assumption | with_reducible exact Upto.refl _ _ _ | with_reducible refine Upto.setCell' ?_ (by first | omega | (simp; done) | (simp; omega)) _ | with_reducible refine Upto.alloc' ?_ (by first | omega | (simp; done) | (simp; omega)) _ | with_reducible refine Upto.drew' ?_)) u2; have z2 := U.size; (first | (have A0 := At.bornU (V := V) hRV (Nat.le_refl _) u2; have A0k := A0.c j _ hx; have A0l := A0.lt) | (have A0 := At.bornUD (V := V) hRV (Nat.le_refl _) u2; have A0k := A0.c j _ hx; have A0l := A0.lt) | skip); clear u2))
    all_goals
      go_wp2_with fail
      go_ret
      exact ⟨_, p + 2, rfl, by simp only [ByteArray.size_append, ByteArray.size_extract]; omega, by omega, by first | exact h2 | exact h2.below (by repeat (first | with_reducible assumption | exact Below.refl _ _ | refine below_drewN ?_ _ | refine Below.drew ?_ | refine Below.alloc ?_ (by first | omega | (simp; done) | (simp; omega)) _ | refine Below.setCell ?_ (by first | omega | (simp; done) | (simp; omega)) _)), HU0.out.trans (Upto.mono (by repeat (first | with_reducible assumption | with_reducible exact Upto.refl _ _ _ | with_reducible refine Upto.setCell' ?_ (by first | omega | (simp; done) | (simp; omega)) _ | with_reducible refine Upto.alloc' ?_ (by first | omega | (simp; done) | (simp; omega)) _ | with_reducible refine Upto.drew' ?_)) hwV)⟩

/-- a text drawn -/
def DrawnTx (M : Nat) (w : World) (e : Ending) (w' : World) : Prop := ∃ u : ByteArray, e = .returned (.string u) ∧ u.size ≤ M ∧ Below w.heap.size w w'
theorem surveyB_le2 (s : Sv) : (surveyB s).size ≤ 2000 := by
  cases h : svOk s
  · unfold surveyB; rw [h]; show 0 ≤ 2000; omega
  · exact surveyB_le h
end Go.Proofs.YtcilgpmeliegoaaGreatDoor
