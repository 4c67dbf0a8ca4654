/-
  No cell of these rows narrows 'for every input' (looked for: loops, veiled, ifaces, maps, wideKeys, modest, calm, conditions, laid).
  DERIVED. THE GIVEN ROWS OF THIS SEAT. 3 by the template 'for every input the law returns true; each argument reads behind the call as it read before'; 0 by the template 'total and deterministic' (their statements: YteadmhigkpecgaaTotals.lean).
  GIVEN WITH THE SEED: the statements are not yours to turn. If you find one false, say at which input.
  Laid BY PROGRAM, IN A SANDBOX (cutbox-rows.mjs): the forced cells as the released guide's own fill.sh prints them over the translation 1ba68a27fdbe5527… (all of the seat's roots in one cut). By AI agents, Wed Nov 11 2026. No macro, syntax, notation, axiom, sorry.
-/
import Derived.Test.YteadmhigkpecgaaChecked
import GoSem.Claim
import GoSem.ClaimJoined
import GoSem.ClaimMapViews
import Derived.JoinedTies
import Derived.KernelRfl
namespace Go.Proofs.Yteadmhigkpecgaa
/- THE CELL 'sum', in the pinned program and in every row, IS THE sha256 OF THE DUMP (.gsa) THAT YteadmhigkpecgaaProg.lean LOADS. Nothing in Lean hashes anything: it is a label: what it is worth is what the hold of that sum in a sandbox is worth. -/
noncomputable def Try.pinned : Pinned := { name := "yteadmhigkpecgaa", sum := "1ba68a27fdbe5527d98859838fd72a8b2c564131d575c8ee2194b4bd8dbbb235", checked := Try.checked }
namespace Rows
def none {H : Type} : Left H := { results := [], args := [] }

/-- 'laws.FnExactPaySum': WHATEVER THE INPUT: true; the input reads as it did. -/
def fnExactPaySumSpec : ChangeSpec := { name := "fnExactPaySum", fn := fun _ => fun
  | [d1, d2] => { results := [.lit (.bool true)], args := [d1, d2] }
  | _ => none }
def fnExactPaySumRow : OpenClaim := { program := "yteadmhigkpecgaa", sum := "1ba68a27fdbe5527d98859838fd72a8b2c564131d575c8ee2194b4bd8dbbb235", func := "loop.example/cavesurvey/laws.FnExactPaySum", spec := "fnExactPaySum", apart := false }
def FnExactPaySumSaid : Prop := fnExactPaySumRow.holds Try.pinned (OpenSpec.ofChange fnExactPaySumSpec)

/-- ITS FALSE NEIGHBOUR: 'it returns false'. Refute it at one input. -/
def fnExactPaySumWrong : ChangeSpec := { name := "fnExactPaySum", fn := fun _ => fun
  | [d1, d2] => { results := [.lit (.bool false)], args := [d1, d2] }
  | _ => none }
def FnExactPaySumWrongFalsely : Prop := fnExactPaySumRow.holds Try.pinned (OpenSpec.ofChange fnExactPaySumWrong)

/-- 'laws.FnExactPitMost': WHATEVER THE INPUT: true; the input reads as it did. -/
def fnExactPitMostSpec : ChangeSpec := { name := "fnExactPitMost", fn := fun _ => fun
  | [d] => { results := [.lit (.bool true)], args := [d] }
  | _ => none }
def fnExactPitMostRow : OpenClaim := { program := "yteadmhigkpecgaa", sum := "1ba68a27fdbe5527d98859838fd72a8b2c564131d575c8ee2194b4bd8dbbb235", func := "loop.example/cavesurvey/laws.FnExactPitMost", spec := "fnExactPitMost", apart := false }
def FnExactPitMostSaid : Prop := fnExactPitMostRow.holds Try.pinned (OpenSpec.ofChange fnExactPitMostSpec)

/-- ITS FALSE NEIGHBOUR: 'it returns false'. Refute it at one input. -/
def fnExactPitMostWrong : ChangeSpec := { name := "fnExactPitMost", fn := fun _ => fun
  | [d] => { results := [.lit (.bool false)], args := [d] }
  | _ => none }
def FnExactPitMostWrongFalsely : Prop := fnExactPitMostRow.holds Try.pinned (OpenSpec.ofChange fnExactPitMostWrong)

/-- 'laws.FnExactPayMost': WHATEVER THE INPUT: true; the input reads as it did. -/
def fnExactPayMostSpec : ChangeSpec := { name := "fnExactPayMost", fn := fun _ => fun
  | [d] => { results := [.lit (.bool true)], args := [d] }
  | _ => none }
def fnExactPayMostRow : OpenClaim := { program := "yteadmhigkpecgaa", sum := "1ba68a27fdbe5527d98859838fd72a8b2c564131d575c8ee2194b4bd8dbbb235", func := "loop.example/cavesurvey/laws.FnExactPayMost", spec := "fnExactPayMost", recurses := true, apart := false }
def FnExactPayMostSaid : Prop := fnExactPayMostRow.holds Try.pinned (OpenSpec.ofChange fnExactPayMostSpec)

/-- ITS FALSE NEIGHBOUR: 'it returns false'. Refute it at one input. -/
def fnExactPayMostWrong : ChangeSpec := { name := "fnExactPayMost", fn := fun _ => fun
  | [d] => { results := [.lit (.bool false)], args := [d] }
  | _ => none }
def FnExactPayMostWrongFalsely : Prop := fnExactPayMostRow.holds Try.pinned (OpenSpec.ofChange fnExactPayMostWrong)

/- THE SECOND FORM. 'bulk': how many values and letters a reading holds, each counted each time it is reached (what is shared counts as often as it is met; a slice's spare places count too). A statement '..UptoSaid' is the law's where the arguments, and the package variables that the reading takes, are together of bulk at most 1048576: NARROWER than '..Said'. Prove '..Said' where nothing that the law and all that it calls make is longer than what came in: it says more and counts as full. Else prove '..UptoSaid'. A law counts once. -/
mutual
def uptoBulk {H : Type} : DataW H → Nat
  | .lit (.string bytes) => bytes.length + 1
  | .lit _ => 1
  | .nil => 1
  | .ptr d => uptoBulk d + 1
  | .slice elems spare => uptoBulkAll elems + uptoBulkAll spare + 1
  | .agg parts => uptoBulkAll parts + 1
  | .iface _ d => uptoBulk d + 1
  | .map entries => uptoBulkEntries entries + 1
  | .held _ => 1
def uptoBulkAll {H : Type} : List (DataW H) → Nat
  | [] => 0
  | d :: r => uptoBulk d + uptoBulkAll r
def uptoBulkEntries {H : Type} : List (Lit × DataW H) → Nat
  | [] => 0
  | x :: r => uptoBulkEntry x + uptoBulkEntries r
def uptoBulkEntry {H : Type} : Lit × DataW H → Nat
  | (.string bytes, d) => bytes.length + uptoBulk d + 1
  | (_, d) => uptoBulk d + 1
 end
def uptoSmall : (H : Type) → List (DataW H) → Bool := fun _ ds => decide (uptoBulkAll ds ≤ 1048576)
def OpenSpec.upto (s : _root_.Go.ChangeSpec) : _root_.Go.OpenSpec := { _root_.Go.OpenSpec.ofChange s with cond := some uptoSmall }

/-- 'laws.FnExactPaySum', WHERE WHAT IT READS IS OF BULK AT MOST 1048576: true; the input reads as it did. -/
def fnExactPaySumUptoRow : OpenClaim := { program := "yteadmhigkpecgaa", sum := "1ba68a27fdbe5527d98859838fd72a8b2c564131d575c8ee2194b4bd8dbbb235", func := "loop.example/cavesurvey/laws.FnExactPaySum", spec := "fnExactPaySum", apart := false, narrowed := true }
def FnExactPaySumUptoSaid : Prop := fnExactPaySumUptoRow.holds Try.pinned (OpenSpec.upto fnExactPaySumSpec)

/-- 'laws.FnExactPitMost', WHERE WHAT IT READS IS OF BULK AT MOST 1048576: true; the input reads as it did. -/
def fnExactPitMostUptoRow : OpenClaim := { program := "yteadmhigkpecgaa", sum := "1ba68a27fdbe5527d98859838fd72a8b2c564131d575c8ee2194b4bd8dbbb235", func := "loop.example/cavesurvey/laws.FnExactPitMost", spec := "fnExactPitMost", apart := false, narrowed := true }
def FnExactPitMostUptoSaid : Prop := fnExactPitMostUptoRow.holds Try.pinned (OpenSpec.upto fnExactPitMostSpec)

/-- 'laws.FnExactPayMost', WHERE WHAT IT READS IS OF BULK AT MOST 1048576: true; the input reads as it did. -/
def fnExactPayMostUptoRow : OpenClaim := { program := "yteadmhigkpecgaa", sum := "1ba68a27fdbe5527d98859838fd72a8b2c564131d575c8ee2194b4bd8dbbb235", func := "loop.example/cavesurvey/laws.FnExactPayMost", spec := "fnExactPayMost", recurses := true, apart := false, narrowed := true }
def FnExactPayMostUptoSaid : Prop := fnExactPayMostUptoRow.holds Try.pinned (OpenSpec.upto fnExactPayMostSpec)

end Rows
end Go.Proofs.Yteadmhigkpecgaa
