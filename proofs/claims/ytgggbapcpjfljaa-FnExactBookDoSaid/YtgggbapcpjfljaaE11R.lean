/-
  FnExactBookDoSaid: for all arguments, wherever they lie in memory, the law returns true and its arguments read as before. No condition.
-/
import Derived.Test.YtgggbapcpjfljaaE11
import Derived.Test.YtgggbapcpjfljaaRB
namespace Go.Proofs.Ytgggbapcpjfljaa
open Go Go.ChangeShapes Go.WideShapes Go.ChangeAt Go.RowKit

set_option maxRecDepth 100000 in
theorem bookDoLifted (os : Os) (started : os.Started) (H : Type) (enc : TypeId × Value → H) :
    ReturnsInHanded {} Try.checked os 10 .any (Rows.fnExactBookDoSpec.pre6 enc Try.prog Try.f10 Rows.fnExactBookDoRow.domain false) (Rows.fnExactBookDoSpec.post enc Try.prog Try.f10 false true false false) := by
  refine returnsInHanded_of_change (C := Try.checked) ownP started (by kernel_rfl) Try.func10
    (ChangeSpec.witness6 (enc := enc) (C := Try.checked) false ⟨#[], #[.agg #[.int .i64 0, .slice none 0 0, .slice none 0 0, .slice none 0 0], .agg #[.int .i64 0, .int .i64 0, .int .i64 0, .int .i64 0, .int .i64 0, .int .i64 0, .int .i64 0]], []⟩ 8 (by kernel_rfl) (by kernel_rfl) (by kernel_rfl) (by kernel_rfl)) ?_
  intro W base args ds gs before hval0 hW hcnd _
  have hval : ∀ (j : Nat) t v, Try.f10.params[j]? = some t → args[j]? = some v → Value.okWide Try.prog W .any base t v := hval0
  have hW' := hW
  obtain ⟨p, q, hA0, hV, rfl, hfz, hnd⟩ := hW
  have hA : DataW.TrodAll enc Try.prog W 0 (fun _ => true) true Try.f10.params.toList args.toList ds p := hA0
  rw [Try.params10] at hA hval
  obtain ⟨v0, vs0, d0, ds0, p0, q0, hargs, rfl, rfl, h0, r0⟩ := trodAll_cons hA
  obtain ⟨v1, vs1, d1, ds1, p1, q1, rfl, rfl, rfl, h1, r1⟩ := trodAll_cons r0
  obtain ⟨rfl, rfl, rfl⟩ := trodAll_nil r1
  obtain rfl : args = #[v0, v1] := by cases args; simp_all
  obtain ⟨rfl, rfl⟩ := trodVars_none hV
  have lt0 : ∀ x ∈ p0, x.block < W.heap.size := by obtain ⟨m, hm⟩ := h0; exact DataW.trod_lt m _ _ _ hm
  have lt1 : ∀ x ∈ p1, x.block < W.heap.size := by obtain ⟨m, hm⟩ := h1; exact DataW.trod_lt m _ _ _ hm
  obtain ⟨st0, a0x, c0x, l0, a0y, c0y, d0', a0z, c0z, u0, rfl, ⟨i0, j0, k0⟩, ⟨i0', j0', k0'⟩, ⟨i0'', j0'', k0''⟩⟩ := open_Bk (u := 24) (s := 46) (e := 28) Try.underlying56 (by kernel_rfl) rfl rfl rfl rfl rfl rfl (by kernel_rfl) svT Try.underlying46 (by kernel_rfl) (by kernel_rfl) ddT (hval 0 56 v0 rfl rfl) h0
  obtain ⟨x1, rfl⟩ := open_Dd Try.underlying28 ddT (hval 1 28 v1 rfl rfl) h1
  clear hA0 hval0
  refine (exactBookDo a0x a0y a0z c0x c0y c0z st0 l0 d0' u0 x1 W (by unfold maxLen at j0; omega) (by unfold maxLen at j0'; omega) (by unfold maxLen at j0''; omega) ⟨k0, k0', k0''⟩).mono fun e W' ⟨he, bel⟩ => ?_
  subst he
  exact ⟨_, rfl, _, _, _, [], _, [], hW', trodAll_mk1 (shut_bool Try.underlying4 _), (trodAll_cons_mk (Below.trod laidOutP (by kernel_rfl) (of_decide_eq_true (by kernel_rfl)) h0 bel lt0) (trodAll_cons_mk (Below.trod laidOutP (by kernel_rfl) (of_decide_eq_true (by kernel_rfl)) h1 bel lt1) trodAll_mk0)), rfl, bel.frame _, fun h => by cases h⟩

theorem bookDoSaid : Rows.FnExactBookDoSaid :=
  OpenClaim.holds_of_wide 10 Try.f10 rfl rfl rfl rfl rfl rfl rfl ⟨rfl, rfl, rfl, rfl, rfl⟩ rfl rfl rfl rfl rfl (by kernel_rfl) Try.func10 (by kernel_rfl)
    (of_decide_eq_true (by kernel_rfl)) (by unfold Func.isWrapper; first | (rw [if_pos (by decide +kernel)]; kernel_rfl) | (rw [if_neg (by decide +kernel)]; exact ⟨rfl, rfl⟩))
    (fun os started H enc _ => bookDoLifted os started H enc)
end Go.Proofs.Ytgggbapcpjfljaa
