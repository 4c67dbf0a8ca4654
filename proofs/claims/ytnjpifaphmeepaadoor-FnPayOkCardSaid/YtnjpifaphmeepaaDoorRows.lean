/-
  NARROWER THAN 'FOR EVERY INPUT', by the rows' own cells (each row's printed sentence says how): FnPitValid: laid · FnPitClose: laid · FnPitCut: laid · FnPitOrder: laid · FnPitFull: laid · FnPitMost: laid · FnPayOk: laid · FnPitMay: laid · FnPitDirect: laid · FnPitBest: laid · FnPitRaise: laid · FnPitWorth: laid · FnPaySum: laid · FnPayMost: laid.
  DERIVED. THE GIVEN ROWS OF THIS SEAT. 14 by the template 'for every input the law returns true; each argument reads behind the call as it read before'; 0 by the template 'total and deterministic' (their statements: YtnjpifaphmeepaaDoorTotals.lean).
  GIVEN WITH THE SEED: the statements are not yours to turn. If you find one false, say at which input.
  Laid BY PROGRAM, IN A SANDBOX (cutbox-rows.mjs): the forced cells as the released guide's own fill.sh prints them over the translation 320ffd6eba4a7ee5… (all of the seat's roots in one cut). By AI agents, Wed Nov 11 2026. No macro, syntax, notation, axiom, sorry.
-/
import Derived.Test.YtnjpifaphmeepaaDoorChecked
import GoSem.Claim
import GoSem.ClaimJoined
import GoSem.ClaimMapViews
import Derived.JoinedTies
import Derived.KernelRfl
namespace Go.Proofs.YtnjpifaphmeepaaDoor
/- THE CELL 'sum', in the pinned program and in every row, IS THE sha256 OF THE DUMP (.gsa) THAT YtnjpifaphmeepaaDoorProg.lean LOADS. Nothing in Lean hashes anything: it is a label: what it is worth is what the hold of that sum in a sandbox is worth. -/
noncomputable def Tryd.pinned : Pinned := { name := "ytnjpifaphmeepaadoor", sum := "320ffd6eba4a7ee5c67f8904151d8555a78022e84f6fca0ea6628461336ba022", checked := Tryd.checked }
namespace Rows
def none {H : Type} : Left H := { results := [], args := [] }

/- WHAT THE LISTED PACKAGE-LEVEL VARIABLES READ AS WHEN THE CALL BEGINS. Each datum BY PROGRAM (the guide's laid-datum.mjs) off the statement by which the dump's own 'gosem.cut.vars' lays the variable. In a bare row this is a premise. The card (YtnjpifaphmeepaaDoorCards.lean) ties it to the program's text. -/
def laid_math_bits_deBruijn32tab {H : Type} : DataW H := .agg [.lit (.int .u8 0), .lit (.int .u8 1), .lit (.int .u8 28), .lit (.int .u8 2), .lit (.int .u8 29), .lit (.int .u8 14), .lit (.int .u8 24), .lit (.int .u8 3), .lit (.int .u8 30), .lit (.int .u8 22), .lit (.int .u8 20), .lit (.int .u8 15), .lit (.int .u8 25), .lit (.int .u8 17), .lit (.int .u8 4), .lit (.int .u8 8), .lit (.int .u8 31), .lit (.int .u8 27), .lit (.int .u8 13), .lit (.int .u8 23), .lit (.int .u8 21), .lit (.int .u8 19), .lit (.int .u8 16), .lit (.int .u8 7), .lit (.int .u8 26), .lit (.int .u8 12), .lit (.int .u8 18), .lit (.int .u8 6), .lit (.int .u8 11), .lit (.int .u8 5), .lit (.int .u8 10), .lit (.int .u8 9)]
def laid_math_bits_deBruijn64tab {H : Type} : DataW H := .agg [.lit (.int .u8 0), .lit (.int .u8 1), .lit (.int .u8 56), .lit (.int .u8 2), .lit (.int .u8 57), .lit (.int .u8 49), .lit (.int .u8 28), .lit (.int .u8 3), .lit (.int .u8 61), .lit (.int .u8 58), .lit (.int .u8 42), .lit (.int .u8 50), .lit (.int .u8 38), .lit (.int .u8 29), .lit (.int .u8 17), .lit (.int .u8 4), .lit (.int .u8 62), .lit (.int .u8 47), .lit (.int .u8 59), .lit (.int .u8 36), .lit (.int .u8 45), .lit (.int .u8 43), .lit (.int .u8 51), .lit (.int .u8 22), .lit (.int .u8 53), .lit (.int .u8 39), .lit (.int .u8 33), .lit (.int .u8 30), .lit (.int .u8 24), .lit (.int .u8 18), .lit (.int .u8 12), .lit (.int .u8 5), .lit (.int .u8 63), .lit (.int .u8 55), .lit (.int .u8 48), .lit (.int .u8 27), .lit (.int .u8 60), .lit (.int .u8 41), .lit (.int .u8 37), .lit (.int .u8 16), .lit (.int .u8 46), .lit (.int .u8 35), .lit (.int .u8 44), .lit (.int .u8 21), .lit (.int .u8 52), .lit (.int .u8 32), .lit (.int .u8 23), .lit (.int .u8 11), .lit (.int .u8 54), .lit (.int .u8 26), .lit (.int .u8 40), .lit (.int .u8 15), .lit (.int .u8 34), .lit (.int .u8 20), .lit (.int .u8 31), .lit (.int .u8 10), .lit (.int .u8 25), .lit (.int .u8 14), .lit (.int .u8 19), .lit (.int .u8 9), .lit (.int .u8 13), .lit (.int .u8 8), .lit (.int .u8 7), .lit (.int .u8 6)]
def laid_internal_strconv_uint64pow10 {H : Type} : DataW H := .agg [.lit (.int .u64 1), .lit (.int .u64 10), .lit (.int .u64 100), .lit (.int .u64 1000), .lit (.int .u64 10000), .lit (.int .u64 100000), .lit (.int .u64 1000000), .lit (.int .u64 10000000), .lit (.int .u64 100000000), .lit (.int .u64 1000000000), .lit (.int .u64 10000000000), .lit (.int .u64 100000000000), .lit (.int .u64 1000000000000), .lit (.int .u64 10000000000000), .lit (.int .u64 100000000000000), .lit (.int .u64 1000000000000000), .lit (.int .u64 10000000000000000), .lit (.int .u64 100000000000000000), .lit (.int .u64 1000000000000000000), .lit (.int .u64 10000000000000000000)]

/-- 'laws.FnPitValid': WHATEVER THE INPUT: true; the input reads as it did. -/
def fnPitValidSpec : ChangeSpec := { name := "fnPitValid", fn := fun _ => fun
  | [d] => { results := [.lit (.bool true)], args := [d] }
  | _ => none }
def fnPitValidRow : OpenClaim := { program := "ytnjpifaphmeepaadoor", sum := "320ffd6eba4a7ee5c67f8904151d8555a78022e84f6fca0ea6628461336ba022", func := "loop.example/cavesurvey/laws.FnPitValid", spec := "fnPitValid", named := ["internal/strconv.uint64pow10", "math/bits.deBruijn32tab", "math/bits.deBruijn64tab"], apart := false, laid := [("math/bits.deBruijn32tab", laid_math_bits_deBruijn32tab), ("math/bits.deBruijn64tab", laid_math_bits_deBruijn64tab), ("internal/strconv.uint64pow10", laid_internal_strconv_uint64pow10)] }
def FnPitValidSaid : Prop := fnPitValidRow.holds Tryd.pinned (OpenSpec.ofChange fnPitValidSpec)

/-- ITS FALSE NEIGHBOUR: 'it returns false'. Refute it at one input. -/
def fnPitValidWrong : ChangeSpec := { name := "fnPitValid", fn := fun _ => fun
  | [d] => { results := [.lit (.bool false)], args := [d] }
  | _ => none }
def FnPitValidWrongFalsely : Prop := fnPitValidRow.holds Tryd.pinned (OpenSpec.ofChange fnPitValidWrong)

/-- 'laws.FnPitClose': WHATEVER THE INPUT: true; the input reads as it did. -/
def fnPitCloseSpec : ChangeSpec := { name := "fnPitClose", fn := fun _ => fun
  | [d] => { results := [.lit (.bool true)], args := [d] }
  | _ => none }
def fnPitCloseRow : OpenClaim := { program := "ytnjpifaphmeepaadoor", sum := "320ffd6eba4a7ee5c67f8904151d8555a78022e84f6fca0ea6628461336ba022", func := "loop.example/cavesurvey/laws.FnPitClose", spec := "fnPitClose", named := ["internal/strconv.uint64pow10", "math/bits.deBruijn32tab", "math/bits.deBruijn64tab"], apart := false, laid := [("math/bits.deBruijn32tab", laid_math_bits_deBruijn32tab), ("math/bits.deBruijn64tab", laid_math_bits_deBruijn64tab), ("internal/strconv.uint64pow10", laid_internal_strconv_uint64pow10)] }
def FnPitCloseSaid : Prop := fnPitCloseRow.holds Tryd.pinned (OpenSpec.ofChange fnPitCloseSpec)

/-- ITS FALSE NEIGHBOUR: 'it returns false'. Refute it at one input. -/
def fnPitCloseWrong : ChangeSpec := { name := "fnPitClose", fn := fun _ => fun
  | [d] => { results := [.lit (.bool false)], args := [d] }
  | _ => none }
def FnPitCloseWrongFalsely : Prop := fnPitCloseRow.holds Tryd.pinned (OpenSpec.ofChange fnPitCloseWrong)

/-- 'laws.FnPitCut': WHATEVER THE INPUT: true; the input reads as it did. -/
def fnPitCutSpec : ChangeSpec := { name := "fnPitCut", fn := fun _ => fun
  | [d] => { results := [.lit (.bool true)], args := [d] }
  | _ => none }
def fnPitCutRow : OpenClaim := { program := "ytnjpifaphmeepaadoor", sum := "320ffd6eba4a7ee5c67f8904151d8555a78022e84f6fca0ea6628461336ba022", func := "loop.example/cavesurvey/laws.FnPitCut", spec := "fnPitCut", named := ["internal/strconv.uint64pow10", "math/bits.deBruijn32tab", "math/bits.deBruijn64tab"], apart := false, laid := [("math/bits.deBruijn32tab", laid_math_bits_deBruijn32tab), ("math/bits.deBruijn64tab", laid_math_bits_deBruijn64tab), ("internal/strconv.uint64pow10", laid_internal_strconv_uint64pow10)] }
def FnPitCutSaid : Prop := fnPitCutRow.holds Tryd.pinned (OpenSpec.ofChange fnPitCutSpec)

/-- ITS FALSE NEIGHBOUR: 'it returns false'. Refute it at one input. -/
def fnPitCutWrong : ChangeSpec := { name := "fnPitCut", fn := fun _ => fun
  | [d] => { results := [.lit (.bool false)], args := [d] }
  | _ => none }
def FnPitCutWrongFalsely : Prop := fnPitCutRow.holds Tryd.pinned (OpenSpec.ofChange fnPitCutWrong)

/-- 'laws.FnPitOrder': WHATEVER THE INPUT: true; the input reads as it did. -/
def fnPitOrderSpec : ChangeSpec := { name := "fnPitOrder", fn := fun _ => fun
  | [d] => { results := [.lit (.bool true)], args := [d] }
  | _ => none }
def fnPitOrderRow : OpenClaim := { program := "ytnjpifaphmeepaadoor", sum := "320ffd6eba4a7ee5c67f8904151d8555a78022e84f6fca0ea6628461336ba022", func := "loop.example/cavesurvey/laws.FnPitOrder", spec := "fnPitOrder", named := ["internal/strconv.uint64pow10", "math/bits.deBruijn32tab", "math/bits.deBruijn64tab"], apart := false, laid := [("math/bits.deBruijn32tab", laid_math_bits_deBruijn32tab), ("math/bits.deBruijn64tab", laid_math_bits_deBruijn64tab), ("internal/strconv.uint64pow10", laid_internal_strconv_uint64pow10)] }
def FnPitOrderSaid : Prop := fnPitOrderRow.holds Tryd.pinned (OpenSpec.ofChange fnPitOrderSpec)

/-- ITS FALSE NEIGHBOUR: 'it returns false'. Refute it at one input. -/
def fnPitOrderWrong : ChangeSpec := { name := "fnPitOrder", fn := fun _ => fun
  | [d] => { results := [.lit (.bool false)], args := [d] }
  | _ => none }
def FnPitOrderWrongFalsely : Prop := fnPitOrderRow.holds Tryd.pinned (OpenSpec.ofChange fnPitOrderWrong)

/-- 'laws.FnPitFull': WHATEVER THE INPUT: true; the input reads as it did. -/
def fnPitFullSpec : ChangeSpec := { name := "fnPitFull", fn := fun _ => fun
  | [d] => { results := [.lit (.bool true)], args := [d] }
  | _ => none }
def fnPitFullRow : OpenClaim := { program := "ytnjpifaphmeepaadoor", sum := "320ffd6eba4a7ee5c67f8904151d8555a78022e84f6fca0ea6628461336ba022", func := "loop.example/cavesurvey/laws.FnPitFull", spec := "fnPitFull", named := ["internal/strconv.uint64pow10", "math/bits.deBruijn32tab", "math/bits.deBruijn64tab"], apart := false, laid := [("math/bits.deBruijn32tab", laid_math_bits_deBruijn32tab), ("math/bits.deBruijn64tab", laid_math_bits_deBruijn64tab), ("internal/strconv.uint64pow10", laid_internal_strconv_uint64pow10)] }
def FnPitFullSaid : Prop := fnPitFullRow.holds Tryd.pinned (OpenSpec.ofChange fnPitFullSpec)

/-- ITS FALSE NEIGHBOUR: 'it returns false'. Refute it at one input. -/
def fnPitFullWrong : ChangeSpec := { name := "fnPitFull", fn := fun _ => fun
  | [d] => { results := [.lit (.bool false)], args := [d] }
  | _ => none }
def FnPitFullWrongFalsely : Prop := fnPitFullRow.holds Tryd.pinned (OpenSpec.ofChange fnPitFullWrong)

/-- 'laws.FnPitMost': WHATEVER THE INPUT: true; the input reads as it did. -/
def fnPitMostSpec : ChangeSpec := { name := "fnPitMost", fn := fun _ => fun
  | [d] => { results := [.lit (.bool true)], args := [d] }
  | _ => none }
def fnPitMostRow : OpenClaim := { program := "ytnjpifaphmeepaadoor", sum := "320ffd6eba4a7ee5c67f8904151d8555a78022e84f6fca0ea6628461336ba022", func := "loop.example/cavesurvey/laws.FnPitMost", spec := "fnPitMost", named := ["internal/strconv.uint64pow10", "math/bits.deBruijn32tab", "math/bits.deBruijn64tab"], apart := false, laid := [("math/bits.deBruijn32tab", laid_math_bits_deBruijn32tab), ("math/bits.deBruijn64tab", laid_math_bits_deBruijn64tab), ("internal/strconv.uint64pow10", laid_internal_strconv_uint64pow10)] }
def FnPitMostSaid : Prop := fnPitMostRow.holds Tryd.pinned (OpenSpec.ofChange fnPitMostSpec)

/-- ITS FALSE NEIGHBOUR: 'it returns false'. Refute it at one input. -/
def fnPitMostWrong : ChangeSpec := { name := "fnPitMost", fn := fun _ => fun
  | [d] => { results := [.lit (.bool false)], args := [d] }
  | _ => none }
def FnPitMostWrongFalsely : Prop := fnPitMostRow.holds Tryd.pinned (OpenSpec.ofChange fnPitMostWrong)

/-- 'laws.FnPayOk': WHATEVER THE INPUT: true; the input reads as it did. -/
def fnPayOkSpec : ChangeSpec := { name := "fnPayOk", fn := fun _ => fun
  | [d] => { results := [.lit (.bool true)], args := [d] }
  | _ => none }
def fnPayOkRow : OpenClaim := { program := "ytnjpifaphmeepaadoor", sum := "320ffd6eba4a7ee5c67f8904151d8555a78022e84f6fca0ea6628461336ba022", func := "loop.example/cavesurvey/laws.FnPayOk", spec := "fnPayOk", named := ["internal/strconv.uint64pow10", "math/bits.deBruijn32tab", "math/bits.deBruijn64tab"], apart := false, laid := [("math/bits.deBruijn32tab", laid_math_bits_deBruijn32tab), ("math/bits.deBruijn64tab", laid_math_bits_deBruijn64tab), ("internal/strconv.uint64pow10", laid_internal_strconv_uint64pow10)] }
def FnPayOkSaid : Prop := fnPayOkRow.holds Tryd.pinned (OpenSpec.ofChange fnPayOkSpec)

/-- ITS FALSE NEIGHBOUR: 'it returns false'. Refute it at one input. -/
def fnPayOkWrong : ChangeSpec := { name := "fnPayOk", fn := fun _ => fun
  | [d] => { results := [.lit (.bool false)], args := [d] }
  | _ => none }
def FnPayOkWrongFalsely : Prop := fnPayOkRow.holds Tryd.pinned (OpenSpec.ofChange fnPayOkWrong)

/-- 'laws.FnPitMay': WHATEVER THE INPUT: true; the input reads as it did. -/
def fnPitMaySpec : ChangeSpec := { name := "fnPitMay", fn := fun _ => fun
  | [d] => { results := [.lit (.bool true)], args := [d] }
  | _ => none }
def fnPitMayRow : OpenClaim := { program := "ytnjpifaphmeepaadoor", sum := "320ffd6eba4a7ee5c67f8904151d8555a78022e84f6fca0ea6628461336ba022", func := "loop.example/cavesurvey/laws.FnPitMay", spec := "fnPitMay", named := ["internal/strconv.uint64pow10", "math/bits.deBruijn32tab", "math/bits.deBruijn64tab"], apart := false, laid := [("math/bits.deBruijn32tab", laid_math_bits_deBruijn32tab), ("math/bits.deBruijn64tab", laid_math_bits_deBruijn64tab), ("internal/strconv.uint64pow10", laid_internal_strconv_uint64pow10)] }
def FnPitMaySaid : Prop := fnPitMayRow.holds Tryd.pinned (OpenSpec.ofChange fnPitMaySpec)

/-- ITS FALSE NEIGHBOUR: 'it returns false'. Refute it at one input. -/
def fnPitMayWrong : ChangeSpec := { name := "fnPitMay", fn := fun _ => fun
  | [d] => { results := [.lit (.bool false)], args := [d] }
  | _ => none }
def FnPitMayWrongFalsely : Prop := fnPitMayRow.holds Tryd.pinned (OpenSpec.ofChange fnPitMayWrong)

/-- 'laws.FnPitDirect': WHATEVER THE INPUT: true; the input reads as it did. -/
def fnPitDirectSpec : ChangeSpec := { name := "fnPitDirect", fn := fun _ => fun
  | [d] => { results := [.lit (.bool true)], args := [d] }
  | _ => none }
def fnPitDirectRow : OpenClaim := { program := "ytnjpifaphmeepaadoor", sum := "320ffd6eba4a7ee5c67f8904151d8555a78022e84f6fca0ea6628461336ba022", func := "loop.example/cavesurvey/laws.FnPitDirect", spec := "fnPitDirect", named := ["internal/strconv.uint64pow10", "math/bits.deBruijn32tab", "math/bits.deBruijn64tab"], apart := false, laid := [("math/bits.deBruijn32tab", laid_math_bits_deBruijn32tab), ("math/bits.deBruijn64tab", laid_math_bits_deBruijn64tab), ("internal/strconv.uint64pow10", laid_internal_strconv_uint64pow10)] }
def FnPitDirectSaid : Prop := fnPitDirectRow.holds Tryd.pinned (OpenSpec.ofChange fnPitDirectSpec)

/-- ITS FALSE NEIGHBOUR: 'it returns false'. Refute it at one input. -/
def fnPitDirectWrong : ChangeSpec := { name := "fnPitDirect", fn := fun _ => fun
  | [d] => { results := [.lit (.bool false)], args := [d] }
  | _ => none }
def FnPitDirectWrongFalsely : Prop := fnPitDirectRow.holds Tryd.pinned (OpenSpec.ofChange fnPitDirectWrong)

/-- 'laws.FnPitBest': WHATEVER THE INPUT: true; the input reads as it did. -/
def fnPitBestSpec : ChangeSpec := { name := "fnPitBest", fn := fun _ => fun
  | [d] => { results := [.lit (.bool true)], args := [d] }
  | _ => none }
def fnPitBestRow : OpenClaim := { program := "ytnjpifaphmeepaadoor", sum := "320ffd6eba4a7ee5c67f8904151d8555a78022e84f6fca0ea6628461336ba022", func := "loop.example/cavesurvey/laws.FnPitBest", spec := "fnPitBest", named := ["internal/strconv.uint64pow10", "math/bits.deBruijn32tab", "math/bits.deBruijn64tab"], apart := false, laid := [("math/bits.deBruijn32tab", laid_math_bits_deBruijn32tab), ("math/bits.deBruijn64tab", laid_math_bits_deBruijn64tab), ("internal/strconv.uint64pow10", laid_internal_strconv_uint64pow10)] }
def FnPitBestSaid : Prop := fnPitBestRow.holds Tryd.pinned (OpenSpec.ofChange fnPitBestSpec)

/-- ITS FALSE NEIGHBOUR: 'it returns false'. Refute it at one input. -/
def fnPitBestWrong : ChangeSpec := { name := "fnPitBest", fn := fun _ => fun
  | [d] => { results := [.lit (.bool false)], args := [d] }
  | _ => none }
def FnPitBestWrongFalsely : Prop := fnPitBestRow.holds Tryd.pinned (OpenSpec.ofChange fnPitBestWrong)

/-- 'laws.FnPitRaise': WHATEVER THE INPUT: true; the input reads as it did. -/
def fnPitRaiseSpec : ChangeSpec := { name := "fnPitRaise", fn := fun _ => fun
  | [d] => { results := [.lit (.bool true)], args := [d] }
  | _ => none }
def fnPitRaiseRow : OpenClaim := { program := "ytnjpifaphmeepaadoor", sum := "320ffd6eba4a7ee5c67f8904151d8555a78022e84f6fca0ea6628461336ba022", func := "loop.example/cavesurvey/laws.FnPitRaise", spec := "fnPitRaise", named := ["internal/strconv.uint64pow10", "math/bits.deBruijn32tab", "math/bits.deBruijn64tab"], apart := false, laid := [("math/bits.deBruijn32tab", laid_math_bits_deBruijn32tab), ("math/bits.deBruijn64tab", laid_math_bits_deBruijn64tab), ("internal/strconv.uint64pow10", laid_internal_strconv_uint64pow10)] }
def FnPitRaiseSaid : Prop := fnPitRaiseRow.holds Tryd.pinned (OpenSpec.ofChange fnPitRaiseSpec)

/-- ITS FALSE NEIGHBOUR: 'it returns false'. Refute it at one input. -/
def fnPitRaiseWrong : ChangeSpec := { name := "fnPitRaise", fn := fun _ => fun
  | [d] => { results := [.lit (.bool false)], args := [d] }
  | _ => none }
def FnPitRaiseWrongFalsely : Prop := fnPitRaiseRow.holds Tryd.pinned (OpenSpec.ofChange fnPitRaiseWrong)

/-- 'laws.FnPitWorth': WHATEVER THE INPUT: true; the input reads as it did. -/
def fnPitWorthSpec : ChangeSpec := { name := "fnPitWorth", fn := fun _ => fun
  | [d] => { results := [.lit (.bool true)], args := [d] }
  | _ => none }
def fnPitWorthRow : OpenClaim := { program := "ytnjpifaphmeepaadoor", sum := "320ffd6eba4a7ee5c67f8904151d8555a78022e84f6fca0ea6628461336ba022", func := "loop.example/cavesurvey/laws.FnPitWorth", spec := "fnPitWorth", named := ["internal/strconv.uint64pow10", "math/bits.deBruijn32tab", "math/bits.deBruijn64tab"], apart := false, laid := [("math/bits.deBruijn32tab", laid_math_bits_deBruijn32tab), ("math/bits.deBruijn64tab", laid_math_bits_deBruijn64tab), ("internal/strconv.uint64pow10", laid_internal_strconv_uint64pow10)] }
def FnPitWorthSaid : Prop := fnPitWorthRow.holds Tryd.pinned (OpenSpec.ofChange fnPitWorthSpec)

/-- ITS FALSE NEIGHBOUR: 'it returns false'. Refute it at one input. -/
def fnPitWorthWrong : ChangeSpec := { name := "fnPitWorth", fn := fun _ => fun
  | [d] => { results := [.lit (.bool false)], args := [d] }
  | _ => none }
def FnPitWorthWrongFalsely : Prop := fnPitWorthRow.holds Tryd.pinned (OpenSpec.ofChange fnPitWorthWrong)

/-- 'laws.FnPaySum': WHATEVER THE INPUT: true; the input reads as it did. -/
def fnPaySumSpec : ChangeSpec := { name := "fnPaySum", fn := fun _ => fun
  | [d] => { results := [.lit (.bool true)], args := [d] }
  | _ => none }
def fnPaySumRow : OpenClaim := { program := "ytnjpifaphmeepaadoor", sum := "320ffd6eba4a7ee5c67f8904151d8555a78022e84f6fca0ea6628461336ba022", func := "loop.example/cavesurvey/laws.FnPaySum", spec := "fnPaySum", named := ["internal/strconv.uint64pow10", "math/bits.deBruijn32tab", "math/bits.deBruijn64tab"], apart := false, laid := [("math/bits.deBruijn32tab", laid_math_bits_deBruijn32tab), ("math/bits.deBruijn64tab", laid_math_bits_deBruijn64tab), ("internal/strconv.uint64pow10", laid_internal_strconv_uint64pow10)] }
def FnPaySumSaid : Prop := fnPaySumRow.holds Tryd.pinned (OpenSpec.ofChange fnPaySumSpec)

/-- ITS FALSE NEIGHBOUR: 'it returns false'. Refute it at one input. -/
def fnPaySumWrong : ChangeSpec := { name := "fnPaySum", fn := fun _ => fun
  | [d] => { results := [.lit (.bool false)], args := [d] }
  | _ => none }
def FnPaySumWrongFalsely : Prop := fnPaySumRow.holds Tryd.pinned (OpenSpec.ofChange fnPaySumWrong)

/-- 'laws.FnPayMost': WHATEVER THE INPUT: true; the input reads as it did. -/
def fnPayMostSpec : ChangeSpec := { name := "fnPayMost", fn := fun _ => fun
  | [d] => { results := [.lit (.bool true)], args := [d] }
  | _ => none }
def fnPayMostRow : OpenClaim := { program := "ytnjpifaphmeepaadoor", sum := "320ffd6eba4a7ee5c67f8904151d8555a78022e84f6fca0ea6628461336ba022", func := "loop.example/cavesurvey/laws.FnPayMost", spec := "fnPayMost", recurses := true, named := ["internal/strconv.uint64pow10", "math/bits.deBruijn32tab", "math/bits.deBruijn64tab"], apart := false, laid := [("math/bits.deBruijn32tab", laid_math_bits_deBruijn32tab), ("math/bits.deBruijn64tab", laid_math_bits_deBruijn64tab), ("internal/strconv.uint64pow10", laid_internal_strconv_uint64pow10)] }
def FnPayMostSaid : Prop := fnPayMostRow.holds Tryd.pinned (OpenSpec.ofChange fnPayMostSpec)

/-- ITS FALSE NEIGHBOUR: 'it returns false'. Refute it at one input. -/
def fnPayMostWrong : ChangeSpec := { name := "fnPayMost", fn := fun _ => fun
  | [d] => { results := [.lit (.bool false)], args := [d] }
  | _ => none }
def FnPayMostWrongFalsely : Prop := fnPayMostRow.holds Tryd.pinned (OpenSpec.ofChange fnPayMostWrong)

/- THE SECOND FORM. 'bulk': how many values and letters a reading holds, each counted each time it is reached (what is shared counts as often as it is met; a slice's spare places count too). A statement '..UptoSaid' is the law's where the arguments, and the package variables that the reading takes, are together of bulk at most 1048576: NARROWER than '..Said'. Prove '..Said' where nothing that the law and all that it calls make is longer than what came in: it says more and counts as full. Else prove '..UptoSaid'. A law counts once. -/
mutual
def uptoBulk {H : Type} : DataW H → Nat
  | .lit (.string bytes) => bytes.length + 1
  | .lit _ => 1
  | .nil => 1
  | .ptr d => uptoBulk d + 1
  | .slice elems spare => uptoBulkAll elems + uptoBulkAll spare + 1
  | .agg parts => uptoBulkAll parts + 1
  | .iface _ d => uptoBulk d + 1
  | .map entries => uptoBulkEntries entries + 1
  | .held _ => 1
def uptoBulkAll {H : Type} : List (DataW H) → Nat
  | [] => 0
  | d :: r => uptoBulk d + uptoBulkAll r
def uptoBulkEntries {H : Type} : List (Lit × DataW H) → Nat
  | [] => 0
  | x :: r => uptoBulkEntry x + uptoBulkEntries r
def uptoBulkEntry {H : Type} : Lit × DataW H → Nat
  | (.string bytes, d) => bytes.length + uptoBulk d + 1
  | (_, d) => uptoBulk d + 1
 end
def uptoSmall : (H : Type) → List (DataW H) → Bool := fun _ ds => decide (uptoBulkAll ds ≤ 1048576)
def OpenSpec.upto (s : _root_.Go.ChangeSpec) : _root_.Go.OpenSpec := { _root_.Go.OpenSpec.ofChange s with cond := some uptoSmall }

/-- 'laws.FnPitValid', WHERE WHAT IT READS IS OF BULK AT MOST 1048576: true; the input reads as it did. -/
def fnPitValidUptoRow : OpenClaim := { program := "ytnjpifaphmeepaadoor", sum := "320ffd6eba4a7ee5c67f8904151d8555a78022e84f6fca0ea6628461336ba022", func := "loop.example/cavesurvey/laws.FnPitValid", spec := "fnPitValid", named := ["internal/strconv.uint64pow10", "math/bits.deBruijn32tab", "math/bits.deBruijn64tab"], apart := false, laid := [("math/bits.deBruijn32tab", laid_math_bits_deBruijn32tab), ("math/bits.deBruijn64tab", laid_math_bits_deBruijn64tab), ("internal/strconv.uint64pow10", laid_internal_strconv_uint64pow10)], narrowed := true }
def FnPitValidUptoSaid : Prop := fnPitValidUptoRow.holds Tryd.pinned (OpenSpec.upto fnPitValidSpec)

/-- 'laws.FnPitClose', WHERE WHAT IT READS IS OF BULK AT MOST 1048576: true; the input reads as it did. -/
def fnPitCloseUptoRow : OpenClaim := { program := "ytnjpifaphmeepaadoor", sum := "320ffd6eba4a7ee5c67f8904151d8555a78022e84f6fca0ea6628461336ba022", func := "loop.example/cavesurvey/laws.FnPitClose", spec := "fnPitClose", named := ["internal/strconv.uint64pow10", "math/bits.deBruijn32tab", "math/bits.deBruijn64tab"], apart := false, laid := [("math/bits.deBruijn32tab", laid_math_bits_deBruijn32tab), ("math/bits.deBruijn64tab", laid_math_bits_deBruijn64tab), ("internal/strconv.uint64pow10", laid_internal_strconv_uint64pow10)], narrowed := true }
def FnPitCloseUptoSaid : Prop := fnPitCloseUptoRow.holds Tryd.pinned (OpenSpec.upto fnPitCloseSpec)

/-- 'laws.FnPitCut', WHERE WHAT IT READS IS OF BULK AT MOST 1048576: true; the input reads as it did. -/
def fnPitCutUptoRow : OpenClaim := { program := "ytnjpifaphmeepaadoor", sum := "320ffd6eba4a7ee5c67f8904151d8555a78022e84f6fca0ea6628461336ba022", func := "loop.example/cavesurvey/laws.FnPitCut", spec := "fnPitCut", named := ["internal/strconv.uint64pow10", "math/bits.deBruijn32tab", "math/bits.deBruijn64tab"], apart := false, laid := [("math/bits.deBruijn32tab", laid_math_bits_deBruijn32tab), ("math/bits.deBruijn64tab", laid_math_bits_deBruijn64tab), ("internal/strconv.uint64pow10", laid_internal_strconv_uint64pow10)], narrowed := true }
def FnPitCutUptoSaid : Prop := fnPitCutUptoRow.holds Tryd.pinned (OpenSpec.upto fnPitCutSpec)

/-- 'laws.FnPitOrder', WHERE WHAT IT READS IS OF BULK AT MOST 1048576: true; the input reads as it did. -/
def fnPitOrderUptoRow : OpenClaim := { program := "ytnjpifaphmeepaadoor", sum := "320ffd6eba4a7ee5c67f8904151d8555a78022e84f6fca0ea6628461336ba022", func := "loop.example/cavesurvey/laws.FnPitOrder", spec := "fnPitOrder", named := ["internal/strconv.uint64pow10", "math/bits.deBruijn32tab", "math/bits.deBruijn64tab"], apart := false, laid := [("math/bits.deBruijn32tab", laid_math_bits_deBruijn32tab), ("math/bits.deBruijn64tab", laid_math_bits_deBruijn64tab), ("internal/strconv.uint64pow10", laid_internal_strconv_uint64pow10)], narrowed := true }
def FnPitOrderUptoSaid : Prop := fnPitOrderUptoRow.holds Tryd.pinned (OpenSpec.upto fnPitOrderSpec)

/-- 'laws.FnPitFull', WHERE WHAT IT READS IS OF BULK AT MOST 1048576: true; the input reads as it did. -/
def fnPitFullUptoRow : OpenClaim := { program := "ytnjpifaphmeepaadoor", sum := "320ffd6eba4a7ee5c67f8904151d8555a78022e84f6fca0ea6628461336ba022", func := "loop.example/cavesurvey/laws.FnPitFull", spec := "fnPitFull", named := ["internal/strconv.uint64pow10", "math/bits.deBruijn32tab", "math/bits.deBruijn64tab"], apart := false, laid := [("math/bits.deBruijn32tab", laid_math_bits_deBruijn32tab), ("math/bits.deBruijn64tab", laid_math_bits_deBruijn64tab), ("internal/strconv.uint64pow10", laid_internal_strconv_uint64pow10)], narrowed := true }
def FnPitFullUptoSaid : Prop := fnPitFullUptoRow.holds Tryd.pinned (OpenSpec.upto fnPitFullSpec)

/-- 'laws.FnPitMost', WHERE WHAT IT READS IS OF BULK AT MOST 1048576: true; the input reads as it did. -/
def fnPitMostUptoRow : OpenClaim := { program := "ytnjpifaphmeepaadoor", sum := "320ffd6eba4a7ee5c67f8904151d8555a78022e84f6fca0ea6628461336ba022", func := "loop.example/cavesurvey/laws.FnPitMost", spec := "fnPitMost", named := ["internal/strconv.uint64pow10", "math/bits.deBruijn32tab", "math/bits.deBruijn64tab"], apart := false, laid := [("math/bits.deBruijn32tab", laid_math_bits_deBruijn32tab), ("math/bits.deBruijn64tab", laid_math_bits_deBruijn64tab), ("internal/strconv.uint64pow10", laid_internal_strconv_uint64pow10)], narrowed := true }
def FnPitMostUptoSaid : Prop := fnPitMostUptoRow.holds Tryd.pinned (OpenSpec.upto fnPitMostSpec)

/-- 'laws.FnPayOk', WHERE WHAT IT READS IS OF BULK AT MOST 1048576: true; the input reads as it did. -/
def fnPayOkUptoRow : OpenClaim := { program := "ytnjpifaphmeepaadoor", sum := "320ffd6eba4a7ee5c67f8904151d8555a78022e84f6fca0ea6628461336ba022", func := "loop.example/cavesurvey/laws.FnPayOk", spec := "fnPayOk", named := ["internal/strconv.uint64pow10", "math/bits.deBruijn32tab", "math/bits.deBruijn64tab"], apart := false, laid := [("math/bits.deBruijn32tab", laid_math_bits_deBruijn32tab), ("math/bits.deBruijn64tab", laid_math_bits_deBruijn64tab), ("internal/strconv.uint64pow10", laid_internal_strconv_uint64pow10)], narrowed := true }
def FnPayOkUptoSaid : Prop := fnPayOkUptoRow.holds Tryd.pinned (OpenSpec.upto fnPayOkSpec)

/-- 'laws.FnPitMay', WHERE WHAT IT READS IS OF BULK AT MOST 1048576: true; the input reads as it did. -/
def fnPitMayUptoRow : OpenClaim := { program := "ytnjpifaphmeepaadoor", sum := "320ffd6eba4a7ee5c67f8904151d8555a78022e84f6fca0ea6628461336ba022", func := "loop.example/cavesurvey/laws.FnPitMay", spec := "fnPitMay", named := ["internal/strconv.uint64pow10", "math/bits.deBruijn32tab", "math/bits.deBruijn64tab"], apart := false, laid := [("math/bits.deBruijn32tab", laid_math_bits_deBruijn32tab), ("math/bits.deBruijn64tab", laid_math_bits_deBruijn64tab), ("internal/strconv.uint64pow10", laid_internal_strconv_uint64pow10)], narrowed := true }
def FnPitMayUptoSaid : Prop := fnPitMayUptoRow.holds Tryd.pinned (OpenSpec.upto fnPitMaySpec)

/-- 'laws.FnPitDirect', WHERE WHAT IT READS IS OF BULK AT MOST 1048576: true; the input reads as it did. -/
def fnPitDirectUptoRow : OpenClaim := { program := "ytnjpifaphmeepaadoor", sum := "320ffd6eba4a7ee5c67f8904151d8555a78022e84f6fca0ea6628461336ba022", func := "loop.example/cavesurvey/laws.FnPitDirect", spec := "fnPitDirect", named := ["internal/strconv.uint64pow10", "math/bits.deBruijn32tab", "math/bits.deBruijn64tab"], apart := false, laid := [("math/bits.deBruijn32tab", laid_math_bits_deBruijn32tab), ("math/bits.deBruijn64tab", laid_math_bits_deBruijn64tab), ("internal/strconv.uint64pow10", laid_internal_strconv_uint64pow10)], narrowed := true }
def FnPitDirectUptoSaid : Prop := fnPitDirectUptoRow.holds Tryd.pinned (OpenSpec.upto fnPitDirectSpec)

/-- 'laws.FnPitBest', WHERE WHAT IT READS IS OF BULK AT MOST 1048576: true; the input reads as it did. -/
def fnPitBestUptoRow : OpenClaim := { program := "ytnjpifaphmeepaadoor", sum := "320ffd6eba4a7ee5c67f8904151d8555a78022e84f6fca0ea6628461336ba022", func := "loop.example/cavesurvey/laws.FnPitBest", spec := "fnPitBest", named := ["internal/strconv.uint64pow10", "math/bits.deBruijn32tab", "math/bits.deBruijn64tab"], apart := false, laid := [("math/bits.deBruijn32tab", laid_math_bits_deBruijn32tab), ("math/bits.deBruijn64tab", laid_math_bits_deBruijn64tab), ("internal/strconv.uint64pow10", laid_internal_strconv_uint64pow10)], narrowed := true }
def FnPitBestUptoSaid : Prop := fnPitBestUptoRow.holds Tryd.pinned (OpenSpec.upto fnPitBestSpec)

/-- 'laws.FnPitRaise', WHERE WHAT IT READS IS OF BULK AT MOST 1048576: true; the input reads as it did. -/
def fnPitRaiseUptoRow : OpenClaim := { program := "ytnjpifaphmeepaadoor", sum := "320ffd6eba4a7ee5c67f8904151d8555a78022e84f6fca0ea6628461336ba022", func := "loop.example/cavesurvey/laws.FnPitRaise", spec := "fnPitRaise", named := ["internal/strconv.uint64pow10", "math/bits.deBruijn32tab", "math/bits.deBruijn64tab"], apart := false, laid := [("math/bits.deBruijn32tab", laid_math_bits_deBruijn32tab), ("math/bits.deBruijn64tab", laid_math_bits_deBruijn64tab), ("internal/strconv.uint64pow10", laid_internal_strconv_uint64pow10)], narrowed := true }
def FnPitRaiseUptoSaid : Prop := fnPitRaiseUptoRow.holds Tryd.pinned (OpenSpec.upto fnPitRaiseSpec)

/-- 'laws.FnPitWorth', WHERE WHAT IT READS IS OF BULK AT MOST 1048576: true; the input reads as it did. -/
def fnPitWorthUptoRow : OpenClaim := { program := "ytnjpifaphmeepaadoor", sum := "320ffd6eba4a7ee5c67f8904151d8555a78022e84f6fca0ea6628461336ba022", func := "loop.example/cavesurvey/laws.FnPitWorth", spec := "fnPitWorth", named := ["internal/strconv.uint64pow10", "math/bits.deBruijn32tab", "math/bits.deBruijn64tab"], apart := false, laid := [("math/bits.deBruijn32tab", laid_math_bits_deBruijn32tab), ("math/bits.deBruijn64tab", laid_math_bits_deBruijn64tab), ("internal/strconv.uint64pow10", laid_internal_strconv_uint64pow10)], narrowed := true }
def FnPitWorthUptoSaid : Prop := fnPitWorthUptoRow.holds Tryd.pinned (OpenSpec.upto fnPitWorthSpec)

/-- 'laws.FnPaySum', WHERE WHAT IT READS IS OF BULK AT MOST 1048576: true; the input reads as it did. -/
def fnPaySumUptoRow : OpenClaim := { program := "ytnjpifaphmeepaadoor", sum := "320ffd6eba4a7ee5c67f8904151d8555a78022e84f6fca0ea6628461336ba022", func := "loop.example/cavesurvey/laws.FnPaySum", spec := "fnPaySum", named := ["internal/strconv.uint64pow10", "math/bits.deBruijn32tab", "math/bits.deBruijn64tab"], apart := false, laid := [("math/bits.deBruijn32tab", laid_math_bits_deBruijn32tab), ("math/bits.deBruijn64tab", laid_math_bits_deBruijn64tab), ("internal/strconv.uint64pow10", laid_internal_strconv_uint64pow10)], narrowed := true }
def FnPaySumUptoSaid : Prop := fnPaySumUptoRow.holds Tryd.pinned (OpenSpec.upto fnPaySumSpec)

/-- 'laws.FnPayMost', WHERE WHAT IT READS IS OF BULK AT MOST 1048576: true; the input reads as it did. -/
def fnPayMostUptoRow : OpenClaim := { program := "ytnjpifaphmeepaadoor", sum := "320ffd6eba4a7ee5c67f8904151d8555a78022e84f6fca0ea6628461336ba022", func := "loop.example/cavesurvey/laws.FnPayMost", spec := "fnPayMost", recurses := true, named := ["internal/strconv.uint64pow10", "math/bits.deBruijn32tab", "math/bits.deBruijn64tab"], apart := false, laid := [("math/bits.deBruijn32tab", laid_math_bits_deBruijn32tab), ("math/bits.deBruijn64tab", laid_math_bits_deBruijn64tab), ("internal/strconv.uint64pow10", laid_internal_strconv_uint64pow10)], narrowed := true }
def FnPayMostUptoSaid : Prop := fnPayMostUptoRow.holds Tryd.pinned (OpenSpec.upto fnPayMostSpec)

end Rows
end Go.Proofs.YtnjpifaphmeepaaDoor
