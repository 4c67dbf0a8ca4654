/- What the rows of exact laws on surveys, deeds and books want: how their arguments are read. -/
import Derived.Test.YtgggbapcpjfljaaDoorRows
import Derived.Test.YtgggbapcpjfljaaDoorOpB
import Derived.OpenShut
import Derived.ShutString
import Derived.ChangeOld
import Derived.Below
namespace Go.Proofs.YtgggbapcpjfljaaDoor
open Go Go.ChangeShapes Go.WideShapes Go.ChangeAt Go.RowKit

theorem ownP : ownKnob Tryd.prog.godebug = none := by kernel_rfl
theorem laidOutP : laidOutB Tryd.prog = true := by kernel_rfl

section
variable {H : Type} {enc : TypeId × Value → H} {w : World} {base : Nat} {spare : Nat → Bool} {held : Bool}
theorem legT : KTrod enc Tryd.prog w base spare held legK 23 :=
  trod_leg (q := 3) Tryd.underlying23 (by kernel_rfl) Tryd.underlying3 (by kernel_rfl) (fun i hi => by
    match i, hi with
    | 0, _ => exact ⟨_, rfl, rfl, rfl⟩
    | 1, _ => exact ⟨_, rfl, rfl, rfl⟩
    | 2, _ => exact ⟨_, rfl, rfl, rfl⟩
    | 3, _ => exact ⟨_, rfl, rfl, rfl⟩
    | 4, _ => exact ⟨_, rfl, rfl, rfl⟩)
theorem ddT : KTrod enc Tryd.prog w base spare held ddK 25 :=
  trod_dd (q := 3) (s := 23) Tryd.underlying25 (by kernel_rfl) Tryd.underlying3 (by kernel_rfl) (fun i hi => by
    match i, hi with
    | 0, _ => exact ⟨_, rfl, rfl, rfl⟩
    | 1, _ => exact ⟨_, rfl, rfl, rfl⟩) rfl rfl rfl (by kernel_rfl) legT
theorem svT : ∀ n cs x, DataW.trod enc Tryd.prog w base spare held n 34 cs = some x → ∃ st a c xs, cs = [.int .i64 st, .slice a xs.length c] ∧ xs.length ≤ c ∧ c ≤ maxLen ∧ Legs w a xs := fun _ _ _ h =>
  trod_Sv (q := 3) (s := 32) (e := 23) Tryd.underlying34 (by kernel_rfl) Tryd.underlying3 (by kernel_rfl) rfl rfl rfl rfl Tryd.underlying32 (by kernel_rfl) (by kernel_rfl) legT h
end
end Go.Proofs.YtgggbapcpjfljaaDoor
