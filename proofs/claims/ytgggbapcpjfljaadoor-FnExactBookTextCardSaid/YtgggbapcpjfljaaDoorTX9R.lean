/-
  FnExactBookTextCardSaid: for every argument, wherever it lies in memory, the law returns true and its argument reads as before. No condition.
-/
import Derived.Test.YtgggbapcpjfljaaDoorCards
import Derived.Test.YtgggbapcpjfljaaDoorDB
import Derived.Test.YtgggbapcpjfljaaDoorTX9
namespace Go.Proofs.YtgggbapcpjfljaaDoor.fnExactBookText
open Go Go.ChangeShapes Go.WideShapes Go.ChangeAt Go.RowKit

theorem reads (os : Os) {H : Type} (enc : TypeId × Value → H) : ∃ places, DataW.whole enc Tryd.prog ((laidWorld os).forCall (fun _ _ => 0) ⟨#[], #[.agg #[.int .i64 0, .slice none 0 0, .slice none 0 0, .slice none 0 0]], []⟩).memory Tryd.f5.params.toList Rows.fnExactBookTextSpec.vars false #[Value.agg #[.int .i64 0, .slice none 0 0, .slice none 0 0, .slice none 0 0]].toList 8 = some ([.agg [.agg [.lit (.int .i64 0), .nil], .nil, .nil]], [], places) :=
  ⟨[], by kernel_rfl⟩

set_option maxRecDepth 100000 in
theorem lifted (os : Os) (started : os.Started) (H : Type) (enc : TypeId × Value → H) (F : Stop.Interp) :
    ReturnsInHanded {} Tryd.checked os 5 .any ((OpenSpec.ofChange Rows.fnExactBookTextSpec).preRow enc Tryd.prog Tryd.f5 Rows.fnExactBookTextRow.domain false Rows.fnExactBookTextRow.laid) (((OpenSpec.ofChange Rows.fnExactBookTextSpec).at F).post enc Tryd.prog Tryd.f5 false true false false) := by
  obtain ⟨places, hx⟩ := reads os enc
  refine returnsInHanded_of_row (C := Tryd.checked) (s := OpenSpec.ofChange Rows.fnExactBookTextSpec) ownP started (by kernel_rfl) Tryd.func5
    (witness_row_at (enc := enc) (C := Tryd.checked) false (laidWorld os) #[.agg #[.int .i64 0, .slice none 0 0, .slice none 0 0, .slice none 0 0]] rfl (by kernel_rfl) (by kernel_rfl) (by kernel_rfl)
      (OpenSpec.preRow_of_cond 8 hx (by kernel_rfl) (fun k hk => by cases hk) (by kernel_rfl) (laidMet_of_run' 8 (by kernel_rfl) (by kernel_rfl)))) ?_
  intro W base args ds gs before hval0 hW _ _ _ hL _ _
  have hval : ∀ (j : Nat) t v, Tryd.f5.params[j]? = some t → args[j]? = some v → Value.okWide Tryd.prog W .any base t v := hval0
  have hW' := hW
  obtain ⟨p, q, hA0, hV, rfl, hfz, hnd⟩ := hW
  have hA : DataW.TrodAll enc Tryd.prog W 0 (fun _ => true) true Tryd.f5.params.toList args.toList ds p := hA0
  rw [Tryd.params5] at hA hval
  obtain ⟨v0, vs0, d0, ds0, p0, q0, hargs, rfl, rfl, h0, r0⟩ := trodAll_cons hA
  obtain ⟨rfl, rfl, rfl⟩ := trodAll_nil r0
  obtain rfl : args = #[v0] := by cases args; simp_all
  obtain ⟨rfl, rfl⟩ := trodVars_none hV
  have lt0 : ∀ x ∈ p0, x.block < W.heap.size := by obtain ⟨m, hm⟩ := h0; exact DataW.trod_lt m _ _ _ hm
  obtain ⟨st0, a0x, c0x, l0, a0y, c0y, d0', a0z, c0z, u0, rfl, ⟨i0, j0, k0⟩, ⟨i0', j0', k0'⟩, ⟨i0'', j0'', k0''⟩⟩ := open_Bk (u := 34) (s := 43) (e := 25) Tryd.underlying45 (by kernel_rfl) rfl rfl rfl rfl rfl rfl (by kernel_rfl) svT Tryd.underlying43 (by kernel_rfl) (by kernel_rfl) ddT (hval 0 45 v0 rfl rfl) h0
  clear hA0 hval0
  refine (exactBookText a0x a0y a0z c0x c0y c0z st0 l0 d0' u0 W (by unfold maxLen at j0; omega) (by unfold maxLen at j0'; omega) (by unfold maxLen at j0''; omega) ⟨k0, k0', k0''⟩ (pow_of_laid hL)).mono fun e W' ⟨he, bel⟩ => ?_
  subst he
  exact ⟨_, rfl, _, _, _, [], _, [], hW', trodAll_mk1 (shut_bool Tryd.underlying4 _), (trodAll_cons_mk (Below.trod laidOutP (by kernel_rfl) (of_decide_eq_true (by kernel_rfl)) h0 bel lt0) trodAll_mk0), rfl, bel.frame _, fun h => by cases h⟩

theorem said : Rows.FnExactBookTextSaid :=
  OpenClaim.holds_of_cond 5 Tryd.f5 rfl rfl rfl rfl rfl rfl rfl ⟨rfl, rfl, rfl, rfl, rfl⟩ rfl rfl rfl rfl rfl (by kernel_rfl) Tryd.func5 (by kernel_rfl)
    (of_decide_eq_true (by kernel_rfl)) (by unfold Func.isWrapper; first | (rw [if_pos (by decide +kernel)]; kernel_rfl) | (rw [if_neg (by decide +kernel)]; exact ⟨rfl, rfl⟩))
    (fun os started H enc _ F => by rw [OpenClaim.pre_eq_preRow]; exact lifted os started H enc F)

theorem plain (f : FuncId) (fn : Func) (hf : Tryd.pinned.checked.prog.funcNamed "loop.example/cavesurvey/laws.FnExactBookText" = some f) (hfn : Tryd.pinned.checked.prog.funcs[f]? = some fn) :
    true = Tryd.pinned.checked.prog.looks [] ∧ ∀ (j : Nat) t, fn.params[j]? = some t → Tryd.pinned.checked.prog.wantsStandIn t = false := by
  obtain rfl : f = 5 := Option.some.inj ((show Tryd.prog.funcNamed "loop.example/cavesurvey/laws.FnExactBookText" = some 5 by kernel_rfl).symm.trans hf) |>.symm
  obtain rfl : fn = Tryd.f5 := (Option.some.inj (Tryd.func5.symm.trans hfn)).symm
  refine ⟨by kernel_rfl, fun j t ht => ?_⟩
  rw [Tryd.params5] at ht
  obtain rfl : t = 45 := by simpa using Array.mem_of_getElem? ht
  exact (show Tryd.prog.wantsStandIn 45 = false by kernel_rfl)
end Go.Proofs.YtgggbapcpjfljaaDoor.fnExactBookText

namespace Go.Proofs.YtgggbapcpjfljaaDoor
open Go
theorem fnExactBookTextCard : Rows.FnExactBookTextCardSaid :=
  Claim7.holds_tied_plain_at .later [] _ _ _ _ fnExactBookText.said (fun _ h => by cases h) (by kernel_rfl) (fun _ h => by cases h) fnExactBookText_row_tie rfl ⟨rfl, rfl⟩ (by kernel_rfl) rfl fnExactBookText.plain (by kernel_rfl)
end Go.Proofs.YtgggbapcpjfljaaDoor
