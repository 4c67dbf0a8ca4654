/- What the rows of exact laws on surveys, deeds and books want: how their arguments are read. What the rows of texts want: the library's tables, a world for the witness. What the rows of laws with the library's readings want: tables, sentinels, a world for the witness. -/
import Derived.Test.YthfoloefkfadlaaGreatDoorRows
import Derived.Test.YthfoloefkfadlaaGreatDoorK1
import Derived.OpenShut
import Derived.ShutString
import Derived.ChangeOld
import Derived.Below
import Derived.Test.YthfoloefkfadlaaGreatDoorTie
import Derived.Test.YthfoloefkfadlaaGreatDoorT1
import Derived.Deep.DeepHandedRow
import Derived.Lib.LaidTab
import Derived.Stop.LaidErr
import Derived.Test.YthfoloefkfadlaaGreatDoorT4
import GoSem.PinnedTables
set_option linter.unusedSimpArgs false
set_option linter.unusedVariables false
namespace Go.Proofs.YthfoloefkfadlaaGreatDoor
open Go Go.ChangeShapes Go.WideShapes Go.ChangeAt Go.RowKit

theorem ownP:ownKnob Tryz.prog.godebug=none:=by kernel_rfl
theorem laidOutP:laidOutB Tryz.prog=true:=by kernel_rfl

section
variable {H:Type} {enc:TypeId × Value→H} {w:World} {base:Nat} {spare:Nat→Bool} {held:Bool}
theorem legT:KTrod enc Tryz.prog w base spare held legK 135 :=
 trod_leg (q:=3) Tryz.underlying135 (by kernel_rfl) Tryz.underlying3 (by kernel_rfl) (fun i hi=>by
  match i,hi with
  | 0,_=>exact ⟨_,rfl,rfl,rfl⟩
  | 1,_=>exact ⟨_,rfl,rfl,rfl⟩
  | 2,_=>exact ⟨_,rfl,rfl,rfl⟩
  | 3,_=>exact ⟨_,rfl,rfl,rfl⟩
  | 4,_=>exact ⟨_,rfl,rfl,rfl⟩)
theorem ddT:KTrod enc Tryz.prog w base spare held ddK 137 :=
 trod_dd (q:=3) (s:=135) Tryz.underlying137 (by kernel_rfl) Tryz.underlying3 (by kernel_rfl) (fun i hi=>by
  match i,hi with
  | 0,_=>exact ⟨_,rfl,rfl,rfl⟩
  | 1,_=>exact ⟨_,rfl,rfl,rfl⟩) rfl rfl rfl (by kernel_rfl) legT
theorem svT:∀ n cs x,DataW.trod enc Tryz.prog w base spare held n 47 cs=some x→∃ st a c xs,cs=[.int .i64 st,.slice a xs.length c]∧xs.length≤c∧c≤maxLen∧Legs w a xs:=fun _ _ _ h =>
 trod_Sv (q:=3) (s:=45) (e:=135) Tryz.underlying47 (by kernel_rfl) Tryz.underlying3 (by kernel_rfl) rfl rfl rfl rfl Tryz.underlying45 (by kernel_rfl) (by kernel_rfl) legT h
end
end Go.Proofs.YthfoloefkfadlaaGreatDoor

namespace Go.Proofs.YthfoloefkfadlaaGreatDoor
open Go Go.RowKit Go.Deep Go.ChangeShapes Go.ChangeMaps Go.WideShapes Go.ChangeAt

theorem gPow:Tryz.prog.globalNamed "internal/strconv.uint64pow10" = some 3:=by kernel_rfl
theorem gPowType:(Tryz.prog.globals[3]?).map (·.type)=some 216:=by kernel_rfl
theorem cellsPow:Tryz.prog.cellsOf 216=20:=by kernel_rfl
theorem cellsU:Tryz.prog.cellsOf 195=1:=by kernel_rfl

def fill (o:Obj) (k:IntKind) (zs:List Int):Obj:=match o with
 | .cells _ t frozen=>.cells (zs.map (Value.int k)).toArray t frozen
 | o=>o
end Go.Proofs.YthfoloefkfadlaaGreatDoor

namespace Go.Proofs.YthfoloefkfadlaaGreatDoor
open Go Go.RowKit Go.Deep Go.ChangeShapes Go.ChangeMaps Go.WideShapes Go.ChangeAt

abbrev laidLL:List (String × DataW Unit):=[("math/bits.deBruijn32tab",Rows.laid_math_bits_deBruijn32tab),("math/bits.deBruijn64tab",Rows.laid_math_bits_deBruijn64tab),("internal/strconv.uint64pow10",Rows.laid_internal_strconv_uint64pow10),("unicode/utf8.acceptRanges",Rows.laid_unicode_utf8_acceptRanges),("strconv.ErrRange",Rows.laid_strconv_ErrRange),("strconv.ErrSyntax",Rows.laid_strconv_ErrSyntax),("unicode/utf8.first",Rows.laid_unicode_utf8_first)]
theorem starErr : "*" ++ "errors.errorString" = "*errors.errorString" := by decide
theorem rowErr (u:TypeId) (h:Tryz.prog.typeName? 3 u=some "*errors.errorString"):u=222 :=
 typeName_ptr_named (nm := "errors.errorString") (by rw [starErr];kernel_rfl) (by kernel_rfl) (by decide) u (by rw [starErr];exact h)
theorem gSynType:(Tryz.prog.globals[1]?).map (·.type)=some 112:=by kernel_rfl
theorem gRngType:(Tryz.prog.globals[2]?).map (·.type)=some 112:=by kernel_rfl
theorem cellsErr:Tryz.prog.cellsOf 224=1:=by kernel_rfl
theorem cellsStr:Tryz.prog.cellsOf 9=1:=by kernel_rfl
theorem lby_of_laid {W:World} (h:laidMet Tryz.prog laidLL W) (hsh:W.ShapedOpen Tryz.prog):Lby W:=by
 refine ⟨Lib.tabIs_of_head gPow gPowType Tryz.underlying216 Tryz.underlying195 cellsU cellsPow h.tail.tail,Tryz.laysM145.s1_3 W hsh,?_,?_⟩
 · obtain ⟨a,s,h1,_⟩:=laid_sentinel h.tail.tail.tail.tail.tail gSyn gSynType Tryz.underlying112 rowErr Tryz.underlying222 Tryz.underlying224 rfl rfl Tryz.underlying9 cellsErr cellsStr
   exact ⟨_,_,h1⟩
 · obtain ⟨a,s,h1,_⟩:=laid_sentinel h.tail.tail.tail.tail gRng gRngType Tryz.underlying112 rowErr Tryz.underlying222 Tryz.underlying224 rfl rfl Tryz.underlying9 cellsErr cellsStr
   exact ⟨_,_,h1⟩

noncomputable def lowL:Nat:=(World.holding Tryz.prog default ⟨#[],#[],[]⟩).heap.size
def ptrObj (o:Obj) (b:Nat):Obj:=match o with
 | .cells _ t frozen=>.cells #[.iface 222 (.pointer (some ⟨b,0,none⟩))] t frozen
 | o=>o
noncomputable def laidWorldL (os:Os):World :=
 { World.holding Tryz.prog os ⟨#[.cells #[.string ⟨#[118,97,108,117,101,32,111,117,116,32,111,102,32,114,97,110,103,101]⟩] 224,.cells #[.string ⟨#[105,110,118,97,108,105,100,32,115,121,110,116,97,120]⟩] 224],#[],[]⟩ with heap:=((((((((World.holding Tryz.prog os ⟨#[.cells #[.string ⟨#[118,97,108,117,101,32,111,117,116,32,111,102,32,114,97,110,103,101]⟩] 224,.cells #[.string ⟨#[105,110,118,97,108,105,100,32,115,121,110,116,97,120]⟩] 224],#[],[]⟩).heap.modify 3 fun o=>fill o .u64 Lib.pow10Tab).modify 6 fun o=>fill o .u8 [0,1,28,2,29,14,24,3,30,22,20,15,25,17,4,8,31,27,13,23,21,19,16,7,26,12,18,6,11,5,10,9]).modify 7 fun o=>fill o .u8 [0,1,56,2,57,49,28,3,61,58,42,50,38,29,17,4,62,47,59,36,45,43,51,22,53,39,33,30,24,18,12,5,63,55,48,27,60,41,37,16,46,35,44,21,52,32,23,11,54,26,40,15,34,20,31,10,25,14,19,9,13,8,7,6]).modify 5 fun o=>fill o .u8 [128,191,160,191,128,159,144,191,128,143,0,0,0,0,0,0,0,0,0,0,0,0,0,0,0,0,0,0,0,0,0,0]).modify 4 fun o=>fill o .u8 (Go.Pinned.utf8FirstZ.map fun (n:Nat)=>(n:Int))).modify 2 fun o=>ptrObj o lowL).modify 1 fun o=>ptrObj o (lowL+1)) }
end Go.Proofs.YthfoloefkfadlaaGreatDoor
