/- Walks of draws: l20Spoil, DrawReadSurvey. -/
import Derived.Test.YtdgnndlhnblenaaDoorR2
import Derived.Test.YtdgnndlhnblenaaDoorR1
import Derived.Test.YtdgnndlhnblenaaDoorT1
set_option linter.unusedSimpArgs false
set_option linter.unusedVariables false
namespace Go.Proofs.YtdgnndlhnblenaaDoor
open Go Go.RowKit Go.Sort

def strs6 : List Value := [.string ⟨#[]⟩, .string ⟨#[48]⟩, .string ⟨#[32]⟩, .string ⟨#[10]⟩, .string ⟨#[59]⟩, .string ⟨#[49]⟩]
theorem strs6_get (k : Nat) (h : k < 6) : ∃ x : ByteArray, x.size ≤ 1 ∧ strs6[k]? = some (.string x) := by
  have : k = 0 ∨ k = 1 ∨ k = 2 ∨ k = 3 ∨ k = 4 ∨ k = 5 := by omega
  rcases this with rfl | rfl | rfl | rfl | rfl | rfl
  · exact ⟨⟨#[]⟩, by decide, rfl⟩
  · exact ⟨⟨#[48]⟩, by decide, rfl⟩
  · exact ⟨⟨#[32]⟩, by decide, rfl⟩
  · exact ⟨⟨#[10]⟩, by decide, rfl⟩
  · exact ⟨⟨#[59]⟩, by decide, rfl⟩
  · exact ⟨⟨#[49]⟩, by decide, rfl⟩
/-- a text drawn with the reader -/
def DrawnT (M : Nat) (R : Nat) (a : Option Addr) (n c p : Nat) (w : World) (e : Ending) (w' : World) : Prop := ∃ (u : ByteArray) (q : Nat), e = .returned (.string u) ∧ u.size ≤ M ∧ q ≤ p + 3 ∧ Rdr w' R a n c q ∧ Upto w.heap.size R w w'

set_option maxRecDepth 100000 in
set_option maxHeartbeats 4000000 in
theorem l20Spoil_any (R : Nat) (a : Option Addr) (n c p : Nat) (s : ByteArray) (w : World) (h : Rdr w R a n c p) (hp : p ≤ 100000) (hs : s.size ≤ 100000) :
    Calls Tryd.prog 92 #[.pointer (some ⟨R, 0, none⟩), .string s] w (DrawnT (s.size + 1) R a n c p w) := by
  by_cases h0 : s.size = 0
  · have h0' : ((s.size : Int) == 0) = true := by simp [h0]
    clear h0
    go_enter Tryd.func92, Tryd.ntmps92
    go_wp2_with fail
    go_ret
    exact ⟨_, p, rfl, by show 1 ≤ _; omega, by omega, h, Upto.refl _ _ _⟩
  · have h0' : ((s.size : Int) == 0) = false := by simpa using h0
    go_enter Tryd.func92, Tryd.ntmps92
    go_wp2_with fail
    refine (pick_up _ _ _ _ _ _ _ h (by omega) (by omega)).mono ?_
    rintro e V ⟨k, rfl, hk, -, h1, u1⟩
    replace hk := hk (by omega)
    have hRV : R < V.heap.size := h1.lt
    have neVa : V.heap.size ≠ R := by omega
    have U0 := u1 w.heap.size
    have hwV : w.heap.size ≤ V.heap.size := U0.size
    have hk1 : k ≤ s.size := by omega
    have hk2 : (k : Int) ≤ (s.size : Int) := by omega
    have hk3 : IntKind.i64.wrap ((k : Int) + 1) = (k : Int) + 1 := IntWalk.i64_in _ (by omega)
    have hk4 : k + 1 ≤ s.size := by omega
    have hk5 : (k : Int) + 1 ≤ (s.size : Int) := by omega
    have hk6 : ((k : Int) + 1).toNat = k + 1 := by omega
    have hk7 : (0 : Int) ≤ (k : Int) + 1 := by omega
    have HU0 := Lib.hid U0
    clear h u1 U0
    have U : Upto V.heap.size R V V := Upto.refl _ _ _
    go_upto_region 4 with fail
    go_region_law
      ((go_simp; go_at_call 72; refine (pick_up _ _ _ _ _ _ _ (h1.below (by repeat (first | with_reducible assumption | exact Below.refl _ _ | refine below_drewN ?_ _ | refine Below.drew ?_ | refine Below.alloc ?_ (by first | omega | (simp; done) | (simp; omega)) _ | refine Below.setCell ?_ (by first | omega | (simp; done) | (simp; omega)) _))) (by omega) (by omega)).mono ?_; rintro e w2 ⟨j, rfl, hj, -, h2, u2⟩; replace hj := hj (by omega); obtain ⟨x, hx1, hx⟩ := strs6_get j (by omega); have hkl : ([.string ⟨#[]⟩, .string ⟨#[48]⟩, .string ⟨#[32]⟩, .string ⟨#[10]⟩, .string ⟨#[59]⟩, .string ⟨#[49]⟩] : List Value)[j]? = some (.string x) := hx; have hs1 : ¬ 9223372036854775807 < k + x.size := (by omega); have hs2 : ¬ 9223372036854775807 < k + x.size + (s.size - (k + 1)) := (by omega); have hj0 : (0 : Int) ≤ (j : Int) := (by omega); have hj6 : (j : Int) < 6 := (by omega); replace U : Upto V.heap.size R V w2 := Upto.next (by repeat (first | with_reducible assumption | with_reducible exact Upto.refl _ _ _ | with_reducible refine Upto.setCell' ?_ (by first | omega | (simp; done) | (simp; omega)) _ | with_reducible refine Upto.alloc' ?_ (by first | omega | (simp; done) | (simp; omega)) _ | with_reducible refine Upto.drew' ?_)) u2; have z2 := U.size; (first | (have A0 := At.bornU (V := V) hRV (Nat.le_refl _) u2; have A0k := A0.c j _ hx; have A0l := A0.lt) | (have A0 := At.bornUD (V := V) hRV (Nat.le_refl _) u2; have A0k := A0.c j _ hx; have A0l := A0.lt) | skip); clear u2))
    all_goals
      go_wp2_with fail
      go_ret
      exact ⟨_, p + 2, rfl, by simp only [ByteArray.size_append, ByteArray.size_extract]; omega, by omega, by first | exact h2 | exact h2.below (by repeat (first | with_reducible assumption | exact Below.refl _ _ | refine below_drewN ?_ _ | refine Below.drew ?_ | refine Below.alloc ?_ (by first | omega | (simp; done) | (simp; omega)) _ | refine Below.setCell ?_ (by first | omega | (simp; done) | (simp; omega)) _)), HU0.out.trans (Upto.mono (by repeat (first | with_reducible assumption | with_reducible exact Upto.refl _ _ _ | with_reducible refine Upto.setCell' ?_ (by first | omega | (simp; done) | (simp; omega)) _ | with_reducible refine Upto.alloc' ?_ (by first | omega | (simp; done) | (simp; omega)) _ | with_reducible refine Upto.drew' ?_)) hwV)⟩

/-- a text drawn -/
def DrawnTx (M : Nat) (w : World) (e : Ending) (w' : World) : Prop := ∃ u : ByteArray, e = .returned (.string u) ∧ u.size ≤ M ∧ Below w.heap.size w w'
theorem surveyB_le2 (s : Sv) : (surveyB s).size ≤ 2000 := by
  cases h : svOk s
  · unfold surveyB; rw [h]; show 0 ≤ 2000; omega
  · exact surveyB_le h
set_option maxRecDepth 100000 in
theorem drawReadSurvey_any (a : Option Addr) (n c : Nat) (w : World) (hc : n ≤ c) (hn : n ≤ 1048576) (hb : Bytes w a n) : Calls Tryd.prog 52 #[.slice a n c] w (DrawnTx 2001 w) := by
  go_enter Tryd.func52, Tryd.ntmps52
  go_wp2_with fail
  refine (l20Open_any a n c _ hc hn hb).mono ?_
  rintro e w1 ⟨n', c', rfl, hr, b0⟩
  obtain ⟨R, hR⟩ : ∃ R, w.heap.size = R := ⟨_, rfl⟩
  rw [hR] at hr ⊢
  have hwR : w.heap.size ≤ R := by omega
  clear hR
  go_wp2_with fail
  refine (l20Survey_any R a n' c' 0 0 _ hr (by omega) (by omega)).mono ?_
  rintro e w2 ⟨⟨st, l⟩, v, q, rfl, o, hl, hst, hq, hr2, u2⟩
  obtain ⟨av, cv, rfl⟩ := o.sl
  replace b0 := upto_new b0 hwR b0.size u2
  simp only at o hl hst ⊢
  clear u2 hr
  go_wp2_with fail
  refine (ssurveyText_any av cv st l _ (by omega) o.kr).mono ?_
  rintro e w3 ⟨rfl, b3⟩
  obtain ⟨t, ht⟩ : ∃ t, surveyB ⟨st, l⟩ = t := ⟨_, rfl⟩
  have htl : t.size ≤ 2000 := by rw [← ht]; exact surveyB_le2 _
  rw [ht]
  clear ht o
  replace hr2 := hr2.below b3
  replace b0 := b0.trans (b3.mono b0.size)
  clear b3
  go_wp2_with fail
  refine (pick_up _ _ _ _ _ _ _ hr2 (by omega) (by omega)).mono ?_
  rintro e w4 ⟨k, rfl, -, -, hr4, u4⟩
  replace b0 := upto_new b0 hwR b0.size (u4 w3.heap.size)
  clear u4 hr2
  by_cases hk : k = 0
  · subst hk
    go_wp2_with fail
    refine (l20Spoil_any R a n' c' _ t _ hr4 (by omega) (by omega)).mono ?_
    rintro e w5 ⟨u, q5, rfl, hu, -, -, u5⟩
    replace b0 := upto_new b0 hwR b0.size u5
    go_wp2_with fail
    go_ret
    exact ⟨u, rfl, by omega, b0⟩
  · have hk' : ((k : Int) == 0) = false := by simpa using hk
    go_wp2_with fail
    go_ret
    exact ⟨t, rfl, by omega, b0⟩
end Go.Proofs.YtdgnndlhnblenaaDoor
