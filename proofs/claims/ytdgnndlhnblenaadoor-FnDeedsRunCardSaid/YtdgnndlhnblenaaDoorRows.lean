/-
  NARROWER THAN 'FOR EVERY INPUT', by the rows' own cells (each row's printed sentence says how): FnDeedDo: laid · FnDeedBack: laid · FnDeedsRun: laid · FnBookValid: laid · FnBookNow: laid · FnBookRedo: laid · FnBookDo: laid · FnBookUndo: laid · FnSurveyText: laid · FnDeedText: laid · FnReadSurvey: laid · FnReadDeed: laid.
  DERIVED. THE GIVEN ROWS OF THIS SEAT. 12 by the template 'for every input the law returns true; each argument reads behind the call as it read before'; 0 by the template 'total and deterministic' (their statements: YtdgnndlhnblenaaDoorTotals.lean).
  GIVEN WITH THE SEED: the statements are not yours to turn. If you find one false, say at which input.
  Laid BY PROGRAM, IN A SANDBOX (cutbox-rows.mjs): the forced cells as the released guide's own fill.sh prints them over the translation 45be84bb8a435334… (all of the seat's roots in one cut). By AI agents, Wed Nov 11 2026. No macro, syntax, notation, axiom, sorry.
-/
import Derived.Test.YtdgnndlhnblenaaDoorChecked
import GoSem.PinnedTables
import GoSem.Claim
import GoSem.ClaimJoined
import GoSem.ClaimMapViews
import Derived.JoinedTies
import Derived.KernelRfl
namespace Go.Proofs.YtdgnndlhnblenaaDoor
/- THE CELL 'sum', in the pinned program and in every row, IS THE sha256 OF THE DUMP (.gsa) THAT YtdgnndlhnblenaaDoorProg.lean LOADS. Nothing in Lean hashes anything: it is a label: what it is worth is what the hold of that sum in a sandbox is worth. -/
noncomputable def Tryd.pinned : Pinned := { name := "ytdgnndlhnblenaadoor", sum := "45be84bb8a435334f6a77126dae9f064f5aac0883225cbd39285e1102ea721b2", checked := Tryd.checked }
namespace Rows
def none {H : Type} : Left H := { results := [], args := [] }

/- WHAT THE LISTED PACKAGE-LEVEL VARIABLES READ AS WHEN THE CALL BEGINS. Each datum BY PROGRAM (the guide's laid-datum.mjs) off the statement by which the dump's own 'gosem.cut.vars' lays the variable. In a bare row this is a premise. The card (YtdgnndlhnblenaaDoorCards.lean) ties it to the program's text. -/
def laid_math_bits_deBruijn32tab {H : Type} : DataW H := .agg [.lit (.int .u8 0), .lit (.int .u8 1), .lit (.int .u8 28), .lit (.int .u8 2), .lit (.int .u8 29), .lit (.int .u8 14), .lit (.int .u8 24), .lit (.int .u8 3), .lit (.int .u8 30), .lit (.int .u8 22), .lit (.int .u8 20), .lit (.int .u8 15), .lit (.int .u8 25), .lit (.int .u8 17), .lit (.int .u8 4), .lit (.int .u8 8), .lit (.int .u8 31), .lit (.int .u8 27), .lit (.int .u8 13), .lit (.int .u8 23), .lit (.int .u8 21), .lit (.int .u8 19), .lit (.int .u8 16), .lit (.int .u8 7), .lit (.int .u8 26), .lit (.int .u8 12), .lit (.int .u8 18), .lit (.int .u8 6), .lit (.int .u8 11), .lit (.int .u8 5), .lit (.int .u8 10), .lit (.int .u8 9)]
def laid_math_bits_deBruijn64tab {H : Type} : DataW H := .agg [.lit (.int .u8 0), .lit (.int .u8 1), .lit (.int .u8 56), .lit (.int .u8 2), .lit (.int .u8 57), .lit (.int .u8 49), .lit (.int .u8 28), .lit (.int .u8 3), .lit (.int .u8 61), .lit (.int .u8 58), .lit (.int .u8 42), .lit (.int .u8 50), .lit (.int .u8 38), .lit (.int .u8 29), .lit (.int .u8 17), .lit (.int .u8 4), .lit (.int .u8 62), .lit (.int .u8 47), .lit (.int .u8 59), .lit (.int .u8 36), .lit (.int .u8 45), .lit (.int .u8 43), .lit (.int .u8 51), .lit (.int .u8 22), .lit (.int .u8 53), .lit (.int .u8 39), .lit (.int .u8 33), .lit (.int .u8 30), .lit (.int .u8 24), .lit (.int .u8 18), .lit (.int .u8 12), .lit (.int .u8 5), .lit (.int .u8 63), .lit (.int .u8 55), .lit (.int .u8 48), .lit (.int .u8 27), .lit (.int .u8 60), .lit (.int .u8 41), .lit (.int .u8 37), .lit (.int .u8 16), .lit (.int .u8 46), .lit (.int .u8 35), .lit (.int .u8 44), .lit (.int .u8 21), .lit (.int .u8 52), .lit (.int .u8 32), .lit (.int .u8 23), .lit (.int .u8 11), .lit (.int .u8 54), .lit (.int .u8 26), .lit (.int .u8 40), .lit (.int .u8 15), .lit (.int .u8 34), .lit (.int .u8 20), .lit (.int .u8 31), .lit (.int .u8 10), .lit (.int .u8 25), .lit (.int .u8 14), .lit (.int .u8 19), .lit (.int .u8 9), .lit (.int .u8 13), .lit (.int .u8 8), .lit (.int .u8 7), .lit (.int .u8 6)]
def laid_internal_strconv_uint64pow10 {H : Type} : DataW H := .agg [.lit (.int .u64 1), .lit (.int .u64 10), .lit (.int .u64 100), .lit (.int .u64 1000), .lit (.int .u64 10000), .lit (.int .u64 100000), .lit (.int .u64 1000000), .lit (.int .u64 10000000), .lit (.int .u64 100000000), .lit (.int .u64 1000000000), .lit (.int .u64 10000000000), .lit (.int .u64 100000000000), .lit (.int .u64 1000000000000), .lit (.int .u64 10000000000000), .lit (.int .u64 100000000000000), .lit (.int .u64 1000000000000000), .lit (.int .u64 10000000000000000), .lit (.int .u64 100000000000000000), .lit (.int .u64 1000000000000000000), .lit (.int .u64 10000000000000000000)]
def laid_unicode_utf8_acceptRanges {H : Type} : DataW H := .agg [.agg [.lit (.int .u8 128), .lit (.int .u8 191)], .agg [.lit (.int .u8 160), .lit (.int .u8 191)], .agg [.lit (.int .u8 128), .lit (.int .u8 159)], .agg [.lit (.int .u8 144), .lit (.int .u8 191)], .agg [.lit (.int .u8 128), .lit (.int .u8 143)], .agg [.lit (.int .u8 0), .lit (.int .u8 0)], .agg [.lit (.int .u8 0), .lit (.int .u8 0)], .agg [.lit (.int .u8 0), .lit (.int .u8 0)], .agg [.lit (.int .u8 0), .lit (.int .u8 0)], .agg [.lit (.int .u8 0), .lit (.int .u8 0)], .agg [.lit (.int .u8 0), .lit (.int .u8 0)], .agg [.lit (.int .u8 0), .lit (.int .u8 0)], .agg [.lit (.int .u8 0), .lit (.int .u8 0)], .agg [.lit (.int .u8 0), .lit (.int .u8 0)], .agg [.lit (.int .u8 0), .lit (.int .u8 0)], .agg [.lit (.int .u8 0), .lit (.int .u8 0)]]
def laid_strconv_ErrRange {H : Type} : DataW H := .iface "*errors.errorString" (.ptr (.agg [.lit (.string [118, 97, 108, 117, 101, 32, 111, 117, 116, 32, 111, 102, 32, 114, 97, 110, 103, 101])]))
def laid_strconv_ErrSyntax {H : Type} : DataW H := .iface "*errors.errorString" (.ptr (.agg [.lit (.string [105, 110, 118, 97, 108, 105, 100, 32, 115, 121, 110, 116, 97, 120])]))
/-- One of Go's own tables, pinned by name: the form's constant. -/
def laid_unicode_utf8_first : DataW Unit := Go.Pinned.utf8First

/-- 'laws.FnDeedDo': WHATEVER THE INPUT: true; the input reads as it did. -/
def fnDeedDoSpec : ChangeSpec := { name := "fnDeedDo", fn := fun _ => fun
  | [d] => { results := [.lit (.bool true)], args := [d] }
  | _ => none }
def fnDeedDoRow : OpenClaim := { program := "ytdgnndlhnblenaadoor", sum := "45be84bb8a435334f6a77126dae9f064f5aac0883225cbd39285e1102ea721b2", func := "loop.example/cavesurvey/laws.FnDeedDo", spec := "fnDeedDo", inPlace := ["slices.overlaps[loop.example/cavesurvey/impl.Leg]"], recurses := true, named := ["internal/strconv.uint64pow10", "math/bits.deBruijn32tab", "math/bits.deBruijn64tab"], apart := false, laid := [("math/bits.deBruijn32tab", laid_math_bits_deBruijn32tab), ("math/bits.deBruijn64tab", laid_math_bits_deBruijn64tab), ("internal/strconv.uint64pow10", laid_internal_strconv_uint64pow10)] }
def FnDeedDoSaid : Prop := fnDeedDoRow.holds Tryd.pinned (OpenSpec.ofChange fnDeedDoSpec)

/-- ITS FALSE NEIGHBOUR: 'it returns false'. Refute it at one input. -/
def fnDeedDoWrong : ChangeSpec := { name := "fnDeedDo", fn := fun _ => fun
  | [d] => { results := [.lit (.bool false)], args := [d] }
  | _ => none }
def FnDeedDoWrongFalsely : Prop := fnDeedDoRow.holds Tryd.pinned (OpenSpec.ofChange fnDeedDoWrong)

/-- 'laws.FnDeedBack': WHATEVER THE INPUT: true; the input reads as it did. -/
def fnDeedBackSpec : ChangeSpec := { name := "fnDeedBack", fn := fun _ => fun
  | [d] => { results := [.lit (.bool true)], args := [d] }
  | _ => none }
def fnDeedBackRow : OpenClaim := { program := "ytdgnndlhnblenaadoor", sum := "45be84bb8a435334f6a77126dae9f064f5aac0883225cbd39285e1102ea721b2", func := "loop.example/cavesurvey/laws.FnDeedBack", spec := "fnDeedBack", inPlace := ["slices.overlaps[loop.example/cavesurvey/impl.Leg]"], recurses := true, named := ["internal/strconv.uint64pow10", "math/bits.deBruijn32tab", "math/bits.deBruijn64tab"], apart := false, laid := [("math/bits.deBruijn32tab", laid_math_bits_deBruijn32tab), ("math/bits.deBruijn64tab", laid_math_bits_deBruijn64tab), ("internal/strconv.uint64pow10", laid_internal_strconv_uint64pow10)] }
def FnDeedBackSaid : Prop := fnDeedBackRow.holds Tryd.pinned (OpenSpec.ofChange fnDeedBackSpec)

/-- ITS FALSE NEIGHBOUR: 'it returns false'. Refute it at one input. -/
def fnDeedBackWrong : ChangeSpec := { name := "fnDeedBack", fn := fun _ => fun
  | [d] => { results := [.lit (.bool false)], args := [d] }
  | _ => none }
def FnDeedBackWrongFalsely : Prop := fnDeedBackRow.holds Tryd.pinned (OpenSpec.ofChange fnDeedBackWrong)

/-- 'laws.FnDeedsRun': WHATEVER THE INPUT: true; the input reads as it did. -/
def fnDeedsRunSpec : ChangeSpec := { name := "fnDeedsRun", fn := fun _ => fun
  | [d] => { results := [.lit (.bool true)], args := [d] }
  | _ => none }
def fnDeedsRunRow : OpenClaim := { program := "ytdgnndlhnblenaadoor", sum := "45be84bb8a435334f6a77126dae9f064f5aac0883225cbd39285e1102ea721b2", func := "loop.example/cavesurvey/laws.FnDeedsRun", spec := "fnDeedsRun", inPlace := ["slices.overlaps[loop.example/cavesurvey/impl.Leg]"], recurses := true, named := ["internal/strconv.uint64pow10", "math/bits.deBruijn32tab", "math/bits.deBruijn64tab"], apart := false, laid := [("math/bits.deBruijn32tab", laid_math_bits_deBruijn32tab), ("math/bits.deBruijn64tab", laid_math_bits_deBruijn64tab), ("internal/strconv.uint64pow10", laid_internal_strconv_uint64pow10)] }
def FnDeedsRunSaid : Prop := fnDeedsRunRow.holds Tryd.pinned (OpenSpec.ofChange fnDeedsRunSpec)

/-- ITS FALSE NEIGHBOUR: 'it returns false'. Refute it at one input. -/
def fnDeedsRunWrong : ChangeSpec := { name := "fnDeedsRun", fn := fun _ => fun
  | [d] => { results := [.lit (.bool false)], args := [d] }
  | _ => none }
def FnDeedsRunWrongFalsely : Prop := fnDeedsRunRow.holds Tryd.pinned (OpenSpec.ofChange fnDeedsRunWrong)

/-- 'laws.FnBookValid': WHATEVER THE INPUT: true; the input reads as it did. -/
def fnBookValidSpec : ChangeSpec := { name := "fnBookValid", fn := fun _ => fun
  | [d] => { results := [.lit (.bool true)], args := [d] }
  | _ => none }
def fnBookValidRow : OpenClaim := { program := "ytdgnndlhnblenaadoor", sum := "45be84bb8a435334f6a77126dae9f064f5aac0883225cbd39285e1102ea721b2", func := "loop.example/cavesurvey/laws.FnBookValid", spec := "fnBookValid", inPlace := ["slices.overlaps[loop.example/cavesurvey/impl.Leg]"], recurses := true, named := ["internal/strconv.uint64pow10", "math/bits.deBruijn32tab", "math/bits.deBruijn64tab"], apart := false, laid := [("math/bits.deBruijn32tab", laid_math_bits_deBruijn32tab), ("math/bits.deBruijn64tab", laid_math_bits_deBruijn64tab), ("internal/strconv.uint64pow10", laid_internal_strconv_uint64pow10)] }
def FnBookValidSaid : Prop := fnBookValidRow.holds Tryd.pinned (OpenSpec.ofChange fnBookValidSpec)

/-- ITS FALSE NEIGHBOUR: 'it returns false'. Refute it at one input. -/
def fnBookValidWrong : ChangeSpec := { name := "fnBookValid", fn := fun _ => fun
  | [d] => { results := [.lit (.bool false)], args := [d] }
  | _ => none }
def FnBookValidWrongFalsely : Prop := fnBookValidRow.holds Tryd.pinned (OpenSpec.ofChange fnBookValidWrong)

/-- 'laws.FnBookNow': WHATEVER THE INPUT: true; the input reads as it did. -/
def fnBookNowSpec : ChangeSpec := { name := "fnBookNow", fn := fun _ => fun
  | [d] => { results := [.lit (.bool true)], args := [d] }
  | _ => none }
def fnBookNowRow : OpenClaim := { program := "ytdgnndlhnblenaadoor", sum := "45be84bb8a435334f6a77126dae9f064f5aac0883225cbd39285e1102ea721b2", func := "loop.example/cavesurvey/laws.FnBookNow", spec := "fnBookNow", inPlace := ["slices.overlaps[loop.example/cavesurvey/impl.Leg]"], recurses := true, named := ["internal/strconv.uint64pow10", "math/bits.deBruijn32tab", "math/bits.deBruijn64tab"], apart := false, laid := [("math/bits.deBruijn32tab", laid_math_bits_deBruijn32tab), ("math/bits.deBruijn64tab", laid_math_bits_deBruijn64tab), ("internal/strconv.uint64pow10", laid_internal_strconv_uint64pow10)] }
def FnBookNowSaid : Prop := fnBookNowRow.holds Tryd.pinned (OpenSpec.ofChange fnBookNowSpec)

/-- ITS FALSE NEIGHBOUR: 'it returns false'. Refute it at one input. -/
def fnBookNowWrong : ChangeSpec := { name := "fnBookNow", fn := fun _ => fun
  | [d] => { results := [.lit (.bool false)], args := [d] }
  | _ => none }
def FnBookNowWrongFalsely : Prop := fnBookNowRow.holds Tryd.pinned (OpenSpec.ofChange fnBookNowWrong)

/-- 'laws.FnBookRedo': WHATEVER THE INPUT: true; the input reads as it did. -/
def fnBookRedoSpec : ChangeSpec := { name := "fnBookRedo", fn := fun _ => fun
  | [d] => { results := [.lit (.bool true)], args := [d] }
  | _ => none }
def fnBookRedoRow : OpenClaim := { program := "ytdgnndlhnblenaadoor", sum := "45be84bb8a435334f6a77126dae9f064f5aac0883225cbd39285e1102ea721b2", func := "loop.example/cavesurvey/laws.FnBookRedo", spec := "fnBookRedo", inPlace := ["slices.overlaps[loop.example/cavesurvey/impl.Leg]"], recurses := true, named := ["internal/strconv.uint64pow10", "math/bits.deBruijn32tab", "math/bits.deBruijn64tab"], apart := false, laid := [("math/bits.deBruijn32tab", laid_math_bits_deBruijn32tab), ("math/bits.deBruijn64tab", laid_math_bits_deBruijn64tab), ("internal/strconv.uint64pow10", laid_internal_strconv_uint64pow10)] }
def FnBookRedoSaid : Prop := fnBookRedoRow.holds Tryd.pinned (OpenSpec.ofChange fnBookRedoSpec)

/-- ITS FALSE NEIGHBOUR: 'it returns false'. Refute it at one input. -/
def fnBookRedoWrong : ChangeSpec := { name := "fnBookRedo", fn := fun _ => fun
  | [d] => { results := [.lit (.bool false)], args := [d] }
  | _ => none }
def FnBookRedoWrongFalsely : Prop := fnBookRedoRow.holds Tryd.pinned (OpenSpec.ofChange fnBookRedoWrong)

/-- 'laws.FnBookDo': WHATEVER THE INPUT: true; the input reads as it did. -/
def fnBookDoSpec : ChangeSpec := { name := "fnBookDo", fn := fun _ => fun
  | [d] => { results := [.lit (.bool true)], args := [d] }
  | _ => none }
def fnBookDoRow : OpenClaim := { program := "ytdgnndlhnblenaadoor", sum := "45be84bb8a435334f6a77126dae9f064f5aac0883225cbd39285e1102ea721b2", func := "loop.example/cavesurvey/laws.FnBookDo", spec := "fnBookDo", inPlace := ["slices.overlaps[loop.example/cavesurvey/impl.Leg]"], recurses := true, named := ["internal/strconv.uint64pow10", "math/bits.deBruijn32tab", "math/bits.deBruijn64tab"], apart := false, laid := [("math/bits.deBruijn32tab", laid_math_bits_deBruijn32tab), ("math/bits.deBruijn64tab", laid_math_bits_deBruijn64tab), ("internal/strconv.uint64pow10", laid_internal_strconv_uint64pow10)] }
def FnBookDoSaid : Prop := fnBookDoRow.holds Tryd.pinned (OpenSpec.ofChange fnBookDoSpec)

/-- ITS FALSE NEIGHBOUR: 'it returns false'. Refute it at one input. -/
def fnBookDoWrong : ChangeSpec := { name := "fnBookDo", fn := fun _ => fun
  | [d] => { results := [.lit (.bool false)], args := [d] }
  | _ => none }
def FnBookDoWrongFalsely : Prop := fnBookDoRow.holds Tryd.pinned (OpenSpec.ofChange fnBookDoWrong)

/-- 'laws.FnBookUndo': WHATEVER THE INPUT: true; the input reads as it did. -/
def fnBookUndoSpec : ChangeSpec := { name := "fnBookUndo", fn := fun _ => fun
  | [d] => { results := [.lit (.bool true)], args := [d] }
  | _ => none }
def fnBookUndoRow : OpenClaim := { program := "ytdgnndlhnblenaadoor", sum := "45be84bb8a435334f6a77126dae9f064f5aac0883225cbd39285e1102ea721b2", func := "loop.example/cavesurvey/laws.FnBookUndo", spec := "fnBookUndo", inPlace := ["slices.overlaps[loop.example/cavesurvey/impl.Leg]"], recurses := true, named := ["internal/strconv.uint64pow10", "math/bits.deBruijn32tab", "math/bits.deBruijn64tab"], apart := false, laid := [("math/bits.deBruijn32tab", laid_math_bits_deBruijn32tab), ("math/bits.deBruijn64tab", laid_math_bits_deBruijn64tab), ("internal/strconv.uint64pow10", laid_internal_strconv_uint64pow10)] }
def FnBookUndoSaid : Prop := fnBookUndoRow.holds Tryd.pinned (OpenSpec.ofChange fnBookUndoSpec)

/-- ITS FALSE NEIGHBOUR: 'it returns false'. Refute it at one input. -/
def fnBookUndoWrong : ChangeSpec := { name := "fnBookUndo", fn := fun _ => fun
  | [d] => { results := [.lit (.bool false)], args := [d] }
  | _ => none }
def FnBookUndoWrongFalsely : Prop := fnBookUndoRow.holds Tryd.pinned (OpenSpec.ofChange fnBookUndoWrong)

/-- 'laws.FnSurveyText': WHATEVER THE INPUT: true; the input reads as it did. -/
def fnSurveyTextSpec : ChangeSpec := { name := "fnSurveyText", fn := fun _ => fun
  | [d] => { results := [.lit (.bool true)], args := [d] }
  | _ => none }
def fnSurveyTextRow : OpenClaim := { program := "ytdgnndlhnblenaadoor", sum := "45be84bb8a435334f6a77126dae9f064f5aac0883225cbd39285e1102ea721b2", func := "loop.example/cavesurvey/laws.FnSurveyText", spec := "fnSurveyText", inPlace := ["internal/bytealg.IndexByteString", "internal/bytealg.IndexString", "internal/bytealg.CountString"], recurses := true, named := ["internal/strconv.uint64pow10", "math/bits.deBruijn32tab", "math/bits.deBruijn64tab", "internal/bytealg.MaxLen", "strconv.ErrSyntax", "strconv.ErrRange", "unicode/utf8.first", "unicode/utf8.acceptRanges"], apart := false, laid := [("math/bits.deBruijn32tab", laid_math_bits_deBruijn32tab), ("math/bits.deBruijn64tab", laid_math_bits_deBruijn64tab), ("internal/strconv.uint64pow10", laid_internal_strconv_uint64pow10), ("unicode/utf8.acceptRanges", laid_unicode_utf8_acceptRanges), ("strconv.ErrRange", laid_strconv_ErrRange), ("strconv.ErrSyntax", laid_strconv_ErrSyntax), ("unicode/utf8.first", laid_unicode_utf8_first)] }
def FnSurveyTextSaid : Prop := fnSurveyTextRow.holds Tryd.pinned (OpenSpec.ofChange fnSurveyTextSpec)

/-- ITS FALSE NEIGHBOUR: 'it returns false'. Refute it at one input. -/
def fnSurveyTextWrong : ChangeSpec := { name := "fnSurveyText", fn := fun _ => fun
  | [d] => { results := [.lit (.bool false)], args := [d] }
  | _ => none }
def FnSurveyTextWrongFalsely : Prop := fnSurveyTextRow.holds Tryd.pinned (OpenSpec.ofChange fnSurveyTextWrong)

/-- 'laws.FnDeedText': WHATEVER THE INPUT: true; the input reads as it did. -/
def fnDeedTextSpec : ChangeSpec := { name := "fnDeedText", fn := fun _ => fun
  | [d] => { results := [.lit (.bool true)], args := [d] }
  | _ => none }
def fnDeedTextRow : OpenClaim := { program := "ytdgnndlhnblenaadoor", sum := "45be84bb8a435334f6a77126dae9f064f5aac0883225cbd39285e1102ea721b2", func := "loop.example/cavesurvey/laws.FnDeedText", spec := "fnDeedText", inPlace := ["internal/bytealg.CountString", "internal/bytealg.IndexByteString", "internal/bytealg.IndexString"], recurses := true, named := ["internal/strconv.uint64pow10", "math/bits.deBruijn32tab", "math/bits.deBruijn64tab", "unicode/utf8.first", "unicode/utf8.acceptRanges", "internal/bytealg.MaxLen", "strconv.ErrSyntax", "strconv.ErrRange"], apart := false, laid := [("math/bits.deBruijn32tab", laid_math_bits_deBruijn32tab), ("math/bits.deBruijn64tab", laid_math_bits_deBruijn64tab), ("internal/strconv.uint64pow10", laid_internal_strconv_uint64pow10), ("unicode/utf8.acceptRanges", laid_unicode_utf8_acceptRanges), ("strconv.ErrRange", laid_strconv_ErrRange), ("strconv.ErrSyntax", laid_strconv_ErrSyntax), ("unicode/utf8.first", laid_unicode_utf8_first)] }
def FnDeedTextSaid : Prop := fnDeedTextRow.holds Tryd.pinned (OpenSpec.ofChange fnDeedTextSpec)

/-- ITS FALSE NEIGHBOUR: 'it returns false'. Refute it at one input. -/
def fnDeedTextWrong : ChangeSpec := { name := "fnDeedText", fn := fun _ => fun
  | [d] => { results := [.lit (.bool false)], args := [d] }
  | _ => none }
def FnDeedTextWrongFalsely : Prop := fnDeedTextRow.holds Tryd.pinned (OpenSpec.ofChange fnDeedTextWrong)

/-- 'laws.FnReadSurvey': WHATEVER THE INPUT: true; the input reads as it did. -/
def fnReadSurveySpec : ChangeSpec := { name := "fnReadSurvey", fn := fun _ => fun
  | [d] => { results := [.lit (.bool true)], args := [d] }
  | _ => none }
def fnReadSurveyRow : OpenClaim := { program := "ytdgnndlhnblenaadoor", sum := "45be84bb8a435334f6a77126dae9f064f5aac0883225cbd39285e1102ea721b2", func := "loop.example/cavesurvey/laws.FnReadSurvey", spec := "fnReadSurvey", inPlace := ["internal/bytealg.IndexByteString", "internal/bytealg.IndexString", "internal/bytealg.CountString"], recurses := true, named := ["internal/bytealg.MaxLen", "strconv.ErrSyntax", "strconv.ErrRange", "internal/strconv.uint64pow10", "math/bits.deBruijn32tab", "math/bits.deBruijn64tab", "unicode/utf8.first", "unicode/utf8.acceptRanges"], apart := false, laid := [("math/bits.deBruijn32tab", laid_math_bits_deBruijn32tab), ("math/bits.deBruijn64tab", laid_math_bits_deBruijn64tab), ("internal/strconv.uint64pow10", laid_internal_strconv_uint64pow10), ("unicode/utf8.acceptRanges", laid_unicode_utf8_acceptRanges), ("strconv.ErrRange", laid_strconv_ErrRange), ("strconv.ErrSyntax", laid_strconv_ErrSyntax), ("unicode/utf8.first", laid_unicode_utf8_first)] }
def FnReadSurveySaid : Prop := fnReadSurveyRow.holds Tryd.pinned (OpenSpec.ofChange fnReadSurveySpec)

/-- ITS FALSE NEIGHBOUR: 'it returns false'. Refute it at one input. -/
def fnReadSurveyWrong : ChangeSpec := { name := "fnReadSurvey", fn := fun _ => fun
  | [d] => { results := [.lit (.bool false)], args := [d] }
  | _ => none }
def FnReadSurveyWrongFalsely : Prop := fnReadSurveyRow.holds Tryd.pinned (OpenSpec.ofChange fnReadSurveyWrong)

/-- 'laws.FnReadDeed': WHATEVER THE INPUT: true; the input reads as it did. -/
def fnReadDeedSpec : ChangeSpec := { name := "fnReadDeed", fn := fun _ => fun
  | [d] => { results := [.lit (.bool true)], args := [d] }
  | _ => none }
def fnReadDeedRow : OpenClaim := { program := "ytdgnndlhnblenaadoor", sum := "45be84bb8a435334f6a77126dae9f064f5aac0883225cbd39285e1102ea721b2", func := "loop.example/cavesurvey/laws.FnReadDeed", spec := "fnReadDeed", inPlace := ["internal/bytealg.CountString", "internal/bytealg.IndexByteString", "internal/bytealg.IndexString"], recurses := true, named := ["unicode/utf8.first", "unicode/utf8.acceptRanges", "internal/bytealg.MaxLen", "strconv.ErrSyntax", "strconv.ErrRange", "internal/strconv.uint64pow10", "math/bits.deBruijn32tab", "math/bits.deBruijn64tab"], apart := false, laid := [("math/bits.deBruijn32tab", laid_math_bits_deBruijn32tab), ("math/bits.deBruijn64tab", laid_math_bits_deBruijn64tab), ("internal/strconv.uint64pow10", laid_internal_strconv_uint64pow10), ("unicode/utf8.acceptRanges", laid_unicode_utf8_acceptRanges), ("strconv.ErrRange", laid_strconv_ErrRange), ("strconv.ErrSyntax", laid_strconv_ErrSyntax), ("unicode/utf8.first", laid_unicode_utf8_first)] }
def FnReadDeedSaid : Prop := fnReadDeedRow.holds Tryd.pinned (OpenSpec.ofChange fnReadDeedSpec)

/-- ITS FALSE NEIGHBOUR: 'it returns false'. Refute it at one input. -/
def fnReadDeedWrong : ChangeSpec := { name := "fnReadDeed", fn := fun _ => fun
  | [d] => { results := [.lit (.bool false)], args := [d] }
  | _ => none }
def FnReadDeedWrongFalsely : Prop := fnReadDeedRow.holds Tryd.pinned (OpenSpec.ofChange fnReadDeedWrong)

/- THE SECOND FORM. 'bulk': how many values and letters a reading holds, each counted each time it is reached (what is shared counts as often as it is met; a slice's spare places count too). A statement '..UptoSaid' is the law's where the arguments, and the package variables that the reading takes, are together of bulk at most 1048576: NARROWER than '..Said'. Prove '..Said' where nothing that the law and all that it calls make is longer than what came in: it says more and counts as full. Else prove '..UptoSaid'. A law counts once. -/
mutual
def uptoBulk {H : Type} : DataW H → Nat
  | .lit (.string bytes) => bytes.length + 1
  | .lit _ => 1
  | .nil => 1
  | .ptr d => uptoBulk d + 1
  | .slice elems spare => uptoBulkAll elems + uptoBulkAll spare + 1
  | .agg parts => uptoBulkAll parts + 1
  | .iface _ d => uptoBulk d + 1
  | .map entries => uptoBulkEntries entries + 1
  | .held _ => 1
def uptoBulkAll {H : Type} : List (DataW H) → Nat
  | [] => 0
  | d :: r => uptoBulk d + uptoBulkAll r
def uptoBulkEntries {H : Type} : List (Lit × DataW H) → Nat
  | [] => 0
  | x :: r => uptoBulkEntry x + uptoBulkEntries r
def uptoBulkEntry {H : Type} : Lit × DataW H → Nat
  | (.string bytes, d) => bytes.length + uptoBulk d + 1
  | (_, d) => uptoBulk d + 1
 end
def uptoSmall : (H : Type) → List (DataW H) → Bool := fun _ ds => decide (uptoBulkAll ds ≤ 1048576)
def OpenSpec.upto (s : _root_.Go.ChangeSpec) : _root_.Go.OpenSpec := { _root_.Go.OpenSpec.ofChange s with cond := some uptoSmall }

/-- 'laws.FnDeedDo', WHERE WHAT IT READS IS OF BULK AT MOST 1048576: true; the input reads as it did. -/
def fnDeedDoUptoRow : OpenClaim := { program := "ytdgnndlhnblenaadoor", sum := "45be84bb8a435334f6a77126dae9f064f5aac0883225cbd39285e1102ea721b2", func := "loop.example/cavesurvey/laws.FnDeedDo", spec := "fnDeedDo", inPlace := ["slices.overlaps[loop.example/cavesurvey/impl.Leg]"], recurses := true, named := ["internal/strconv.uint64pow10", "math/bits.deBruijn32tab", "math/bits.deBruijn64tab"], apart := false, laid := [("math/bits.deBruijn32tab", laid_math_bits_deBruijn32tab), ("math/bits.deBruijn64tab", laid_math_bits_deBruijn64tab), ("internal/strconv.uint64pow10", laid_internal_strconv_uint64pow10)], narrowed := true }
def FnDeedDoUptoSaid : Prop := fnDeedDoUptoRow.holds Tryd.pinned (OpenSpec.upto fnDeedDoSpec)

/-- 'laws.FnDeedBack', WHERE WHAT IT READS IS OF BULK AT MOST 1048576: true; the input reads as it did. -/
def fnDeedBackUptoRow : OpenClaim := { program := "ytdgnndlhnblenaadoor", sum := "45be84bb8a435334f6a77126dae9f064f5aac0883225cbd39285e1102ea721b2", func := "loop.example/cavesurvey/laws.FnDeedBack", spec := "fnDeedBack", inPlace := ["slices.overlaps[loop.example/cavesurvey/impl.Leg]"], recurses := true, named := ["internal/strconv.uint64pow10", "math/bits.deBruijn32tab", "math/bits.deBruijn64tab"], apart := false, laid := [("math/bits.deBruijn32tab", laid_math_bits_deBruijn32tab), ("math/bits.deBruijn64tab", laid_math_bits_deBruijn64tab), ("internal/strconv.uint64pow10", laid_internal_strconv_uint64pow10)], narrowed := true }
def FnDeedBackUptoSaid : Prop := fnDeedBackUptoRow.holds Tryd.pinned (OpenSpec.upto fnDeedBackSpec)

/-- 'laws.FnDeedsRun', WHERE WHAT IT READS IS OF BULK AT MOST 1048576: true; the input reads as it did. -/
def fnDeedsRunUptoRow : OpenClaim := { program := "ytdgnndlhnblenaadoor", sum := "45be84bb8a435334f6a77126dae9f064f5aac0883225cbd39285e1102ea721b2", func := "loop.example/cavesurvey/laws.FnDeedsRun", spec := "fnDeedsRun", inPlace := ["slices.overlaps[loop.example/cavesurvey/impl.Leg]"], recurses := true, named := ["internal/strconv.uint64pow10", "math/bits.deBruijn32tab", "math/bits.deBruijn64tab"], apart := false, laid := [("math/bits.deBruijn32tab", laid_math_bits_deBruijn32tab), ("math/bits.deBruijn64tab", laid_math_bits_deBruijn64tab), ("internal/strconv.uint64pow10", laid_internal_strconv_uint64pow10)], narrowed := true }
def FnDeedsRunUptoSaid : Prop := fnDeedsRunUptoRow.holds Tryd.pinned (OpenSpec.upto fnDeedsRunSpec)

/-- 'laws.FnBookValid', WHERE WHAT IT READS IS OF BULK AT MOST 1048576: true; the input reads as it did. -/
def fnBookValidUptoRow : OpenClaim := { program := "ytdgnndlhnblenaadoor", sum := "45be84bb8a435334f6a77126dae9f064f5aac0883225cbd39285e1102ea721b2", func := "loop.example/cavesurvey/laws.FnBookValid", spec := "fnBookValid", inPlace := ["slices.overlaps[loop.example/cavesurvey/impl.Leg]"], recurses := true, named := ["internal/strconv.uint64pow10", "math/bits.deBruijn32tab", "math/bits.deBruijn64tab"], apart := false, laid := [("math/bits.deBruijn32tab", laid_math_bits_deBruijn32tab), ("math/bits.deBruijn64tab", laid_math_bits_deBruijn64tab), ("internal/strconv.uint64pow10", laid_internal_strconv_uint64pow10)], narrowed := true }
def FnBookValidUptoSaid : Prop := fnBookValidUptoRow.holds Tryd.pinned (OpenSpec.upto fnBookValidSpec)

/-- 'laws.FnBookNow', WHERE WHAT IT READS IS OF BULK AT MOST 1048576: true; the input reads as it did. -/
def fnBookNowUptoRow : OpenClaim := { program := "ytdgnndlhnblenaadoor", sum := "45be84bb8a435334f6a77126dae9f064f5aac0883225cbd39285e1102ea721b2", func := "loop.example/cavesurvey/laws.FnBookNow", spec := "fnBookNow", inPlace := ["slices.overlaps[loop.example/cavesurvey/impl.Leg]"], recurses := true, named := ["internal/strconv.uint64pow10", "math/bits.deBruijn32tab", "math/bits.deBruijn64tab"], apart := false, laid := [("math/bits.deBruijn32tab", laid_math_bits_deBruijn32tab), ("math/bits.deBruijn64tab", laid_math_bits_deBruijn64tab), ("internal/strconv.uint64pow10", laid_internal_strconv_uint64pow10)], narrowed := true }
def FnBookNowUptoSaid : Prop := fnBookNowUptoRow.holds Tryd.pinned (OpenSpec.upto fnBookNowSpec)

/-- 'laws.FnBookRedo', WHERE WHAT IT READS IS OF BULK AT MOST 1048576: true; the input reads as it did. -/
def fnBookRedoUptoRow : OpenClaim := { program := "ytdgnndlhnblenaadoor", sum := "45be84bb8a435334f6a77126dae9f064f5aac0883225cbd39285e1102ea721b2", func := "loop.example/cavesurvey/laws.FnBookRedo", spec := "fnBookRedo", inPlace := ["slices.overlaps[loop.example/cavesurvey/impl.Leg]"], recurses := true, named := ["internal/strconv.uint64pow10", "math/bits.deBruijn32tab", "math/bits.deBruijn64tab"], apart := false, laid := [("math/bits.deBruijn32tab", laid_math_bits_deBruijn32tab), ("math/bits.deBruijn64tab", laid_math_bits_deBruijn64tab), ("internal/strconv.uint64pow10", laid_internal_strconv_uint64pow10)], narrowed := true }
def FnBookRedoUptoSaid : Prop := fnBookRedoUptoRow.holds Tryd.pinned (OpenSpec.upto fnBookRedoSpec)

/-- 'laws.FnBookDo', WHERE WHAT IT READS IS OF BULK AT MOST 1048576: true; the input reads as it did. -/
def fnBookDoUptoRow : OpenClaim := { program := "ytdgnndlhnblenaadoor", sum := "45be84bb8a435334f6a77126dae9f064f5aac0883225cbd39285e1102ea721b2", func := "loop.example/cavesurvey/laws.FnBookDo", spec := "fnBookDo", inPlace := ["slices.overlaps[loop.example/cavesurvey/impl.Leg]"], recurses := true, named := ["internal/strconv.uint64pow10", "math/bits.deBruijn32tab", "math/bits.deBruijn64tab"], apart := false, laid := [("math/bits.deBruijn32tab", laid_math_bits_deBruijn32tab), ("math/bits.deBruijn64tab", laid_math_bits_deBruijn64tab), ("internal/strconv.uint64pow10", laid_internal_strconv_uint64pow10)], narrowed := true }
def FnBookDoUptoSaid : Prop := fnBookDoUptoRow.holds Tryd.pinned (OpenSpec.upto fnBookDoSpec)

/-- 'laws.FnBookUndo', WHERE WHAT IT READS IS OF BULK AT MOST 1048576: true; the input reads as it did. -/
def fnBookUndoUptoRow : OpenClaim := { program := "ytdgnndlhnblenaadoor", sum := "45be84bb8a435334f6a77126dae9f064f5aac0883225cbd39285e1102ea721b2", func := "loop.example/cavesurvey/laws.FnBookUndo", spec := "fnBookUndo", inPlace := ["slices.overlaps[loop.example/cavesurvey/impl.Leg]"], recurses := true, named := ["internal/strconv.uint64pow10", "math/bits.deBruijn32tab", "math/bits.deBruijn64tab"], apart := false, laid := [("math/bits.deBruijn32tab", laid_math_bits_deBruijn32tab), ("math/bits.deBruijn64tab", laid_math_bits_deBruijn64tab), ("internal/strconv.uint64pow10", laid_internal_strconv_uint64pow10)], narrowed := true }
def FnBookUndoUptoSaid : Prop := fnBookUndoUptoRow.holds Tryd.pinned (OpenSpec.upto fnBookUndoSpec)

/-- 'laws.FnSurveyText', WHERE WHAT IT READS IS OF BULK AT MOST 1048576: true; the input reads as it did. -/
def fnSurveyTextUptoRow : OpenClaim := { program := "ytdgnndlhnblenaadoor", sum := "45be84bb8a435334f6a77126dae9f064f5aac0883225cbd39285e1102ea721b2", func := "loop.example/cavesurvey/laws.FnSurveyText", spec := "fnSurveyText", inPlace := ["internal/bytealg.IndexByteString", "internal/bytealg.IndexString", "internal/bytealg.CountString"], recurses := true, named := ["internal/strconv.uint64pow10", "math/bits.deBruijn32tab", "math/bits.deBruijn64tab", "internal/bytealg.MaxLen", "strconv.ErrSyntax", "strconv.ErrRange", "unicode/utf8.first", "unicode/utf8.acceptRanges"], apart := false, laid := [("math/bits.deBruijn32tab", laid_math_bits_deBruijn32tab), ("math/bits.deBruijn64tab", laid_math_bits_deBruijn64tab), ("internal/strconv.uint64pow10", laid_internal_strconv_uint64pow10), ("unicode/utf8.acceptRanges", laid_unicode_utf8_acceptRanges), ("strconv.ErrRange", laid_strconv_ErrRange), ("strconv.ErrSyntax", laid_strconv_ErrSyntax), ("unicode/utf8.first", laid_unicode_utf8_first)], narrowed := true }
def FnSurveyTextUptoSaid : Prop := fnSurveyTextUptoRow.holds Tryd.pinned (OpenSpec.upto fnSurveyTextSpec)

/-- 'laws.FnDeedText', WHERE WHAT IT READS IS OF BULK AT MOST 1048576: true; the input reads as it did. -/
def fnDeedTextUptoRow : OpenClaim := { program := "ytdgnndlhnblenaadoor", sum := "45be84bb8a435334f6a77126dae9f064f5aac0883225cbd39285e1102ea721b2", func := "loop.example/cavesurvey/laws.FnDeedText", spec := "fnDeedText", inPlace := ["internal/bytealg.CountString", "internal/bytealg.IndexByteString", "internal/bytealg.IndexString"], recurses := true, named := ["internal/strconv.uint64pow10", "math/bits.deBruijn32tab", "math/bits.deBruijn64tab", "unicode/utf8.first", "unicode/utf8.acceptRanges", "internal/bytealg.MaxLen", "strconv.ErrSyntax", "strconv.ErrRange"], apart := false, laid := [("math/bits.deBruijn32tab", laid_math_bits_deBruijn32tab), ("math/bits.deBruijn64tab", laid_math_bits_deBruijn64tab), ("internal/strconv.uint64pow10", laid_internal_strconv_uint64pow10), ("unicode/utf8.acceptRanges", laid_unicode_utf8_acceptRanges), ("strconv.ErrRange", laid_strconv_ErrRange), ("strconv.ErrSyntax", laid_strconv_ErrSyntax), ("unicode/utf8.first", laid_unicode_utf8_first)], narrowed := true }
def FnDeedTextUptoSaid : Prop := fnDeedTextUptoRow.holds Tryd.pinned (OpenSpec.upto fnDeedTextSpec)

/-- 'laws.FnReadSurvey', WHERE WHAT IT READS IS OF BULK AT MOST 1048576: true; the input reads as it did. -/
def fnReadSurveyUptoRow : OpenClaim := { program := "ytdgnndlhnblenaadoor", sum := "45be84bb8a435334f6a77126dae9f064f5aac0883225cbd39285e1102ea721b2", func := "loop.example/cavesurvey/laws.FnReadSurvey", spec := "fnReadSurvey", inPlace := ["internal/bytealg.IndexByteString", "internal/bytealg.IndexString", "internal/bytealg.CountString"], recurses := true, named := ["internal/bytealg.MaxLen", "strconv.ErrSyntax", "strconv.ErrRange", "internal/strconv.uint64pow10", "math/bits.deBruijn32tab", "math/bits.deBruijn64tab", "unicode/utf8.first", "unicode/utf8.acceptRanges"], apart := false, laid := [("math/bits.deBruijn32tab", laid_math_bits_deBruijn32tab), ("math/bits.deBruijn64tab", laid_math_bits_deBruijn64tab), ("internal/strconv.uint64pow10", laid_internal_strconv_uint64pow10), ("unicode/utf8.acceptRanges", laid_unicode_utf8_acceptRanges), ("strconv.ErrRange", laid_strconv_ErrRange), ("strconv.ErrSyntax", laid_strconv_ErrSyntax), ("unicode/utf8.first", laid_unicode_utf8_first)], narrowed := true }
def FnReadSurveyUptoSaid : Prop := fnReadSurveyUptoRow.holds Tryd.pinned (OpenSpec.upto fnReadSurveySpec)

/-- 'laws.FnReadDeed', WHERE WHAT IT READS IS OF BULK AT MOST 1048576: true; the input reads as it did. -/
def fnReadDeedUptoRow : OpenClaim := { program := "ytdgnndlhnblenaadoor", sum := "45be84bb8a435334f6a77126dae9f064f5aac0883225cbd39285e1102ea721b2", func := "loop.example/cavesurvey/laws.FnReadDeed", spec := "fnReadDeed", inPlace := ["internal/bytealg.CountString", "internal/bytealg.IndexByteString", "internal/bytealg.IndexString"], recurses := true, named := ["unicode/utf8.first", "unicode/utf8.acceptRanges", "internal/bytealg.MaxLen", "strconv.ErrSyntax", "strconv.ErrRange", "internal/strconv.uint64pow10", "math/bits.deBruijn32tab", "math/bits.deBruijn64tab"], apart := false, laid := [("math/bits.deBruijn32tab", laid_math_bits_deBruijn32tab), ("math/bits.deBruijn64tab", laid_math_bits_deBruijn64tab), ("internal/strconv.uint64pow10", laid_internal_strconv_uint64pow10), ("unicode/utf8.acceptRanges", laid_unicode_utf8_acceptRanges), ("strconv.ErrRange", laid_strconv_ErrRange), ("strconv.ErrSyntax", laid_strconv_ErrSyntax), ("unicode/utf8.first", laid_unicode_utf8_first)], narrowed := true }
def FnReadDeedUptoSaid : Prop := fnReadDeedUptoRow.holds Tryd.pinned (OpenSpec.upto fnReadDeedSpec)

end Rows
end Go.Proofs.YtdgnndlhnblenaaDoor
