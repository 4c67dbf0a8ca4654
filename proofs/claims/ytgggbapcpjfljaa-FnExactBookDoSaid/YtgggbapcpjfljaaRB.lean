/- What the rows of exact laws on surveys, deeds and books want: how their arguments are read. -/
import Derived.Test.YtgggbapcpjfljaaRows
import Derived.Test.YtgggbapcpjfljaaOpB
import Derived.OpenShut
import Derived.ShutString
import Derived.ChangeOld
import Derived.Below
namespace Go.Proofs.Ytgggbapcpjfljaa
open Go Go.ChangeShapes Go.WideShapes Go.ChangeAt Go.RowKit

theorem ownP : ownKnob Try.prog.godebug = none := by kernel_rfl
theorem laidOutP : laidOutB Try.prog = true := by kernel_rfl

section
variable {H : Type} {enc : TypeId × Value → H} {w : World} {base : Nat} {spare : Nat → Bool} {held : Bool}
theorem legT : KTrod enc Try.prog w base spare held legK 26 :=
  trod_leg (q := 3) Try.underlying26 (by kernel_rfl) Try.underlying3 (by kernel_rfl) (fun i hi => by
    match i, hi with
    | 0, _ => exact ⟨_, rfl, rfl, rfl⟩
    | 1, _ => exact ⟨_, rfl, rfl, rfl⟩
    | 2, _ => exact ⟨_, rfl, rfl, rfl⟩
    | 3, _ => exact ⟨_, rfl, rfl, rfl⟩
    | 4, _ => exact ⟨_, rfl, rfl, rfl⟩)
theorem ddT : KTrod enc Try.prog w base spare held ddK 28 :=
  trod_dd (q := 3) (s := 26) Try.underlying28 (by kernel_rfl) Try.underlying3 (by kernel_rfl) (fun i hi => by
    match i, hi with
    | 0, _ => exact ⟨_, rfl, rfl, rfl⟩
    | 1, _ => exact ⟨_, rfl, rfl, rfl⟩) rfl rfl rfl (by kernel_rfl) legT
theorem svT : ∀ n cs x, DataW.trod enc Try.prog w base spare held n 24 cs = some x → ∃ st a c xs, cs = [.int .i64 st, .slice a xs.length c] ∧ xs.length ≤ c ∧ c ≤ maxLen ∧ Legs w a xs := fun _ _ _ h =>
  trod_Sv (q := 3) (s := 22) (e := 26) Try.underlying24 (by kernel_rfl) Try.underlying3 (by kernel_rfl) rfl rfl rfl rfl Try.underlying22 (by kernel_rfl) (by kernel_rfl) legT h
end
end Go.Proofs.Ytgggbapcpjfljaa
