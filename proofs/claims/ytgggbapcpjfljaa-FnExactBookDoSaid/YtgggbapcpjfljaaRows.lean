/-
  No cell of these rows narrows 'for every input' (looked for: loops, veiled, ifaces, maps, wideKeys, modest, calm, conditions, laid).
  DERIVED. THE GIVEN ROWS OF THIS SEAT. 8 by the template 'for every input the law returns true; each argument reads behind the call as it read before'; 0 by the template 'total and deterministic' (their statements: YtgggbapcpjfljaaTotals.lean).
  GIVEN WITH THE SEED: the statements are not yours to turn. If you find one false, say at which input.
  Laid BY PROGRAM, IN A SANDBOX (cutbox-rows.mjs): the forced cells as the released guide's own fill.sh prints them over the translation 63ee8f20458701df… (all of the seat's roots in one cut). By AI agents, Wed Nov 11 2026. No macro, syntax, notation, axiom, sorry.
-/
import Derived.Test.YtgggbapcpjfljaaChecked
import GoSem.Claim
import GoSem.ClaimJoined
import GoSem.ClaimMapViews
import Derived.JoinedTies
import Derived.KernelRfl
namespace Go.Proofs.Ytgggbapcpjfljaa
/- THE CELL 'sum', in the pinned program and in every row, IS THE sha256 OF THE DUMP (.gsa) THAT YtgggbapcpjfljaaProg.lean LOADS. Nothing in Lean hashes anything: it is a label: what it is worth is what the hold of that sum in a sandbox is worth. -/
noncomputable def Try.pinned : Pinned := { name := "ytgggbapcpjfljaa", sum := "63ee8f20458701df605d26d7fcd85a3673400147f37b633f1efe1eb73cde4b24", checked := Try.checked }
namespace Rows
def none {H : Type} : Left H := { results := [], args := [] }

/-- 'laws.FnExactDeedBack': WHATEVER THE INPUT: true; the input reads as it did. -/
def fnExactDeedBackSpec : ChangeSpec := { name := "fnExactDeedBack", fn := fun _ => fun
  | [d1, d2] => { results := [.lit (.bool true)], args := [d1, d2] }
  | _ => none }
def fnExactDeedBackRow : OpenClaim := { program := "ytgggbapcpjfljaa", sum := "63ee8f20458701df605d26d7fcd85a3673400147f37b633f1efe1eb73cde4b24", func := "loop.example/cavesurvey/laws.FnExactDeedBack", spec := "fnExactDeedBack", inPlace := ["slices.overlaps[loop.example/cavesurvey/impl.Leg]"], apart := false }
def FnExactDeedBackSaid : Prop := fnExactDeedBackRow.holds Try.pinned (OpenSpec.ofChange fnExactDeedBackSpec)

/-- ITS FALSE NEIGHBOUR: 'it returns false'. Refute it at one input. -/
def fnExactDeedBackWrong : ChangeSpec := { name := "fnExactDeedBack", fn := fun _ => fun
  | [d1, d2] => { results := [.lit (.bool false)], args := [d1, d2] }
  | _ => none }
def FnExactDeedBackWrongFalsely : Prop := fnExactDeedBackRow.holds Try.pinned (OpenSpec.ofChange fnExactDeedBackWrong)

/-- 'laws.FnExactDeedDo': WHATEVER THE INPUT: true; the input reads as it did. -/
def fnExactDeedDoSpec : ChangeSpec := { name := "fnExactDeedDo", fn := fun _ => fun
  | [d1, d2] => { results := [.lit (.bool true)], args := [d1, d2] }
  | _ => none }
def fnExactDeedDoRow : OpenClaim := { program := "ytgggbapcpjfljaa", sum := "63ee8f20458701df605d26d7fcd85a3673400147f37b633f1efe1eb73cde4b24", func := "loop.example/cavesurvey/laws.FnExactDeedDo", spec := "fnExactDeedDo", inPlace := ["slices.overlaps[loop.example/cavesurvey/impl.Leg]"], apart := false }
def FnExactDeedDoSaid : Prop := fnExactDeedDoRow.holds Try.pinned (OpenSpec.ofChange fnExactDeedDoSpec)

/-- ITS FALSE NEIGHBOUR: 'it returns false'. Refute it at one input. -/
def fnExactDeedDoWrong : ChangeSpec := { name := "fnExactDeedDo", fn := fun _ => fun
  | [d1, d2] => { results := [.lit (.bool false)], args := [d1, d2] }
  | _ => none }
def FnExactDeedDoWrongFalsely : Prop := fnExactDeedDoRow.holds Try.pinned (OpenSpec.ofChange fnExactDeedDoWrong)

/-- 'laws.FnExactDeedsRun': WHATEVER THE INPUT: true; the input reads as it did. -/
def fnExactDeedsRunSpec : ChangeSpec := { name := "fnExactDeedsRun", fn := fun _ => fun
  | [d1, d2] => { results := [.lit (.bool true)], args := [d1, d2] }
  | _ => none }
def fnExactDeedsRunRow : OpenClaim := { program := "ytgggbapcpjfljaa", sum := "63ee8f20458701df605d26d7fcd85a3673400147f37b633f1efe1eb73cde4b24", func := "loop.example/cavesurvey/laws.FnExactDeedsRun", spec := "fnExactDeedsRun", inPlace := ["slices.overlaps[loop.example/cavesurvey/impl.Leg]"], apart := false }
def FnExactDeedsRunSaid : Prop := fnExactDeedsRunRow.holds Try.pinned (OpenSpec.ofChange fnExactDeedsRunSpec)

/-- ITS FALSE NEIGHBOUR: 'it returns false'. Refute it at one input. -/
def fnExactDeedsRunWrong : ChangeSpec := { name := "fnExactDeedsRun", fn := fun _ => fun
  | [d1, d2] => { results := [.lit (.bool false)], args := [d1, d2] }
  | _ => none }
def FnExactDeedsRunWrongFalsely : Prop := fnExactDeedsRunRow.holds Try.pinned (OpenSpec.ofChange fnExactDeedsRunWrong)

/-- 'laws.FnExactBookValid': WHATEVER THE INPUT: true; the input reads as it did. -/
def fnExactBookValidSpec : ChangeSpec := { name := "fnExactBookValid", fn := fun _ => fun
  | [d] => { results := [.lit (.bool true)], args := [d] }
  | _ => none }
def fnExactBookValidRow : OpenClaim := { program := "ytgggbapcpjfljaa", sum := "63ee8f20458701df605d26d7fcd85a3673400147f37b633f1efe1eb73cde4b24", func := "loop.example/cavesurvey/laws.FnExactBookValid", spec := "fnExactBookValid", inPlace := ["slices.overlaps[loop.example/cavesurvey/impl.Leg]"], apart := false }
def FnExactBookValidSaid : Prop := fnExactBookValidRow.holds Try.pinned (OpenSpec.ofChange fnExactBookValidSpec)

/-- ITS FALSE NEIGHBOUR: 'it returns false'. Refute it at one input. -/
def fnExactBookValidWrong : ChangeSpec := { name := "fnExactBookValid", fn := fun _ => fun
  | [d] => { results := [.lit (.bool false)], args := [d] }
  | _ => none }
def FnExactBookValidWrongFalsely : Prop := fnExactBookValidRow.holds Try.pinned (OpenSpec.ofChange fnExactBookValidWrong)

/-- 'laws.FnExactBookNow': WHATEVER THE INPUT: true; the input reads as it did. -/
def fnExactBookNowSpec : ChangeSpec := { name := "fnExactBookNow", fn := fun _ => fun
  | [d] => { results := [.lit (.bool true)], args := [d] }
  | _ => none }
def fnExactBookNowRow : OpenClaim := { program := "ytgggbapcpjfljaa", sum := "63ee8f20458701df605d26d7fcd85a3673400147f37b633f1efe1eb73cde4b24", func := "loop.example/cavesurvey/laws.FnExactBookNow", spec := "fnExactBookNow", inPlace := ["slices.overlaps[loop.example/cavesurvey/impl.Leg]"], apart := false }
def FnExactBookNowSaid : Prop := fnExactBookNowRow.holds Try.pinned (OpenSpec.ofChange fnExactBookNowSpec)

/-- ITS FALSE NEIGHBOUR: 'it returns false'. Refute it at one input. -/
def fnExactBookNowWrong : ChangeSpec := { name := "fnExactBookNow", fn := fun _ => fun
  | [d] => { results := [.lit (.bool false)], args := [d] }
  | _ => none }
def FnExactBookNowWrongFalsely : Prop := fnExactBookNowRow.holds Try.pinned (OpenSpec.ofChange fnExactBookNowWrong)

/-- 'laws.FnExactBookRedo': WHATEVER THE INPUT: true; the input reads as it did. -/
def fnExactBookRedoSpec : ChangeSpec := { name := "fnExactBookRedo", fn := fun _ => fun
  | [d] => { results := [.lit (.bool true)], args := [d] }
  | _ => none }
def fnExactBookRedoRow : OpenClaim := { program := "ytgggbapcpjfljaa", sum := "63ee8f20458701df605d26d7fcd85a3673400147f37b633f1efe1eb73cde4b24", func := "loop.example/cavesurvey/laws.FnExactBookRedo", spec := "fnExactBookRedo", inPlace := ["slices.overlaps[loop.example/cavesurvey/impl.Leg]"], apart := false }
def FnExactBookRedoSaid : Prop := fnExactBookRedoRow.holds Try.pinned (OpenSpec.ofChange fnExactBookRedoSpec)

/-- ITS FALSE NEIGHBOUR: 'it returns false'. Refute it at one input. -/
def fnExactBookRedoWrong : ChangeSpec := { name := "fnExactBookRedo", fn := fun _ => fun
  | [d] => { results := [.lit (.bool false)], args := [d] }
  | _ => none }
def FnExactBookRedoWrongFalsely : Prop := fnExactBookRedoRow.holds Try.pinned (OpenSpec.ofChange fnExactBookRedoWrong)

/-- 'laws.FnExactBookUndo': WHATEVER THE INPUT: true; the input reads as it did. -/
def fnExactBookUndoSpec : ChangeSpec := { name := "fnExactBookUndo", fn := fun _ => fun
  | [d] => { results := [.lit (.bool true)], args := [d] }
  | _ => none }
def fnExactBookUndoRow : OpenClaim := { program := "ytgggbapcpjfljaa", sum := "63ee8f20458701df605d26d7fcd85a3673400147f37b633f1efe1eb73cde4b24", func := "loop.example/cavesurvey/laws.FnExactBookUndo", spec := "fnExactBookUndo", inPlace := ["slices.overlaps[loop.example/cavesurvey/impl.Leg]"], apart := false }
def FnExactBookUndoSaid : Prop := fnExactBookUndoRow.holds Try.pinned (OpenSpec.ofChange fnExactBookUndoSpec)

/-- ITS FALSE NEIGHBOUR: 'it returns false'. Refute it at one input. -/
def fnExactBookUndoWrong : ChangeSpec := { name := "fnExactBookUndo", fn := fun _ => fun
  | [d] => { results := [.lit (.bool false)], args := [d] }
  | _ => none }
def FnExactBookUndoWrongFalsely : Prop := fnExactBookUndoRow.holds Try.pinned (OpenSpec.ofChange fnExactBookUndoWrong)

/-- 'laws.FnExactBookDo': WHATEVER THE INPUT: true; the input reads as it did. -/
def fnExactBookDoSpec : ChangeSpec := { name := "fnExactBookDo", fn := fun _ => fun
  | [d1, d2] => { results := [.lit (.bool true)], args := [d1, d2] }
  | _ => none }
def fnExactBookDoRow : OpenClaim := { program := "ytgggbapcpjfljaa", sum := "63ee8f20458701df605d26d7fcd85a3673400147f37b633f1efe1eb73cde4b24", func := "loop.example/cavesurvey/laws.FnExactBookDo", spec := "fnExactBookDo", inPlace := ["slices.overlaps[loop.example/cavesurvey/impl.Leg]"], apart := false }
def FnExactBookDoSaid : Prop := fnExactBookDoRow.holds Try.pinned (OpenSpec.ofChange fnExactBookDoSpec)

/-- ITS FALSE NEIGHBOUR: 'it returns false'. Refute it at one input. -/
def fnExactBookDoWrong : ChangeSpec := { name := "fnExactBookDo", fn := fun _ => fun
  | [d1, d2] => { results := [.lit (.bool false)], args := [d1, d2] }
  | _ => none }
def FnExactBookDoWrongFalsely : Prop := fnExactBookDoRow.holds Try.pinned (OpenSpec.ofChange fnExactBookDoWrong)

/- THE SECOND FORM. 'bulk': how many values and letters a reading holds, each counted each time it is reached (what is shared counts as often as it is met; a slice's spare places count too). A statement '..UptoSaid' is the law's where the arguments, and the package variables that the reading takes, are together of bulk at most 1048576: NARROWER than '..Said'. Prove '..Said' where nothing that the law and all that it calls make is longer than what came in: it says more and counts as full. Else prove '..UptoSaid'. A law counts once. -/
mutual
def uptoBulk {H : Type} : DataW H → Nat
  | .lit (.string bytes) => bytes.length + 1
  | .lit _ => 1
  | .nil => 1
  | .ptr d => uptoBulk d + 1
  | .slice elems spare => uptoBulkAll elems + uptoBulkAll spare + 1
  | .agg parts => uptoBulkAll parts + 1
  | .iface _ d => uptoBulk d + 1
  | .map entries => uptoBulkEntries entries + 1
  | .held _ => 1
def uptoBulkAll {H : Type} : List (DataW H) → Nat
  | [] => 0
  | d :: r => uptoBulk d + uptoBulkAll r
def uptoBulkEntries {H : Type} : List (Lit × DataW H) → Nat
  | [] => 0
  | x :: r => uptoBulkEntry x + uptoBulkEntries r
def uptoBulkEntry {H : Type} : Lit × DataW H → Nat
  | (.string bytes, d) => bytes.length + uptoBulk d + 1
  | (_, d) => uptoBulk d + 1
 end
def uptoSmall : (H : Type) → List (DataW H) → Bool := fun _ ds => decide (uptoBulkAll ds ≤ 1048576)
def OpenSpec.upto (s : _root_.Go.ChangeSpec) : _root_.Go.OpenSpec := { _root_.Go.OpenSpec.ofChange s with cond := some uptoSmall }

/-- 'laws.FnExactDeedBack', WHERE WHAT IT READS IS OF BULK AT MOST 1048576: true; the input reads as it did. -/
def fnExactDeedBackUptoRow : OpenClaim := { program := "ytgggbapcpjfljaa", sum := "63ee8f20458701df605d26d7fcd85a3673400147f37b633f1efe1eb73cde4b24", func := "loop.example/cavesurvey/laws.FnExactDeedBack", spec := "fnExactDeedBack", inPlace := ["slices.overlaps[loop.example/cavesurvey/impl.Leg]"], apart := false, narrowed := true }
def FnExactDeedBackUptoSaid : Prop := fnExactDeedBackUptoRow.holds Try.pinned (OpenSpec.upto fnExactDeedBackSpec)

/-- 'laws.FnExactDeedDo', WHERE WHAT IT READS IS OF BULK AT MOST 1048576: true; the input reads as it did. -/
def fnExactDeedDoUptoRow : OpenClaim := { program := "ytgggbapcpjfljaa", sum := "63ee8f20458701df605d26d7fcd85a3673400147f37b633f1efe1eb73cde4b24", func := "loop.example/cavesurvey/laws.FnExactDeedDo", spec := "fnExactDeedDo", inPlace := ["slices.overlaps[loop.example/cavesurvey/impl.Leg]"], apart := false, narrowed := true }
def FnExactDeedDoUptoSaid : Prop := fnExactDeedDoUptoRow.holds Try.pinned (OpenSpec.upto fnExactDeedDoSpec)

/-- 'laws.FnExactDeedsRun', WHERE WHAT IT READS IS OF BULK AT MOST 1048576: true; the input reads as it did. -/
def fnExactDeedsRunUptoRow : OpenClaim := { program := "ytgggbapcpjfljaa", sum := "63ee8f20458701df605d26d7fcd85a3673400147f37b633f1efe1eb73cde4b24", func := "loop.example/cavesurvey/laws.FnExactDeedsRun", spec := "fnExactDeedsRun", inPlace := ["slices.overlaps[loop.example/cavesurvey/impl.Leg]"], apart := false, narrowed := true }
def FnExactDeedsRunUptoSaid : Prop := fnExactDeedsRunUptoRow.holds Try.pinned (OpenSpec.upto fnExactDeedsRunSpec)

/-- 'laws.FnExactBookValid', WHERE WHAT IT READS IS OF BULK AT MOST 1048576: true; the input reads as it did. -/
def fnExactBookValidUptoRow : OpenClaim := { program := "ytgggbapcpjfljaa", sum := "63ee8f20458701df605d26d7fcd85a3673400147f37b633f1efe1eb73cde4b24", func := "loop.example/cavesurvey/laws.FnExactBookValid", spec := "fnExactBookValid", inPlace := ["slices.overlaps[loop.example/cavesurvey/impl.Leg]"], apart := false, narrowed := true }
def FnExactBookValidUptoSaid : Prop := fnExactBookValidUptoRow.holds Try.pinned (OpenSpec.upto fnExactBookValidSpec)

/-- 'laws.FnExactBookNow', WHERE WHAT IT READS IS OF BULK AT MOST 1048576: true; the input reads as it did. -/
def fnExactBookNowUptoRow : OpenClaim := { program := "ytgggbapcpjfljaa", sum := "63ee8f20458701df605d26d7fcd85a3673400147f37b633f1efe1eb73cde4b24", func := "loop.example/cavesurvey/laws.FnExactBookNow", spec := "fnExactBookNow", inPlace := ["slices.overlaps[loop.example/cavesurvey/impl.Leg]"], apart := false, narrowed := true }
def FnExactBookNowUptoSaid : Prop := fnExactBookNowUptoRow.holds Try.pinned (OpenSpec.upto fnExactBookNowSpec)

/-- 'laws.FnExactBookRedo', WHERE WHAT IT READS IS OF BULK AT MOST 1048576: true; the input reads as it did. -/
def fnExactBookRedoUptoRow : OpenClaim := { program := "ytgggbapcpjfljaa", sum := "63ee8f20458701df605d26d7fcd85a3673400147f37b633f1efe1eb73cde4b24", func := "loop.example/cavesurvey/laws.FnExactBookRedo", spec := "fnExactBookRedo", inPlace := ["slices.overlaps[loop.example/cavesurvey/impl.Leg]"], apart := false, narrowed := true }
def FnExactBookRedoUptoSaid : Prop := fnExactBookRedoUptoRow.holds Try.pinned (OpenSpec.upto fnExactBookRedoSpec)

/-- 'laws.FnExactBookUndo', WHERE WHAT IT READS IS OF BULK AT MOST 1048576: true; the input reads as it did. -/
def fnExactBookUndoUptoRow : OpenClaim := { program := "ytgggbapcpjfljaa", sum := "63ee8f20458701df605d26d7fcd85a3673400147f37b633f1efe1eb73cde4b24", func := "loop.example/cavesurvey/laws.FnExactBookUndo", spec := "fnExactBookUndo", inPlace := ["slices.overlaps[loop.example/cavesurvey/impl.Leg]"], apart := false, narrowed := true }
def FnExactBookUndoUptoSaid : Prop := fnExactBookUndoUptoRow.holds Try.pinned (OpenSpec.upto fnExactBookUndoSpec)

/-- 'laws.FnExactBookDo', WHERE WHAT IT READS IS OF BULK AT MOST 1048576: true; the input reads as it did. -/
def fnExactBookDoUptoRow : OpenClaim := { program := "ytgggbapcpjfljaa", sum := "63ee8f20458701df605d26d7fcd85a3673400147f37b633f1efe1eb73cde4b24", func := "loop.example/cavesurvey/laws.FnExactBookDo", spec := "fnExactBookDo", inPlace := ["slices.overlaps[loop.example/cavesurvey/impl.Leg]"], apart := false, narrowed := true }
def FnExactBookDoUptoSaid : Prop := fnExactBookDoUptoRow.holds Try.pinned (OpenSpec.upto fnExactBookDoSpec)

end Rows
end Go.Proofs.Ytgggbapcpjfljaa
