/- What the rows of exact laws on surveys, deeds and books want: how their arguments are read. -/
import Derived.Test.YthfoloefkfadlaaGreatDoorRows
import Derived.Test.YthfoloefkfadlaaGreatDoorK1
import Derived.OpenShut
import Derived.ShutString
import Derived.ChangeOld
import Derived.Below
import Derived.Test.YthfoloefkfadlaaGreatDoorTie
import Derived.Test.YthfoloefkfadlaaGreatDoorT1
import Derived.Deep.DeepHandedRow
import Derived.Lib.LaidTab
import Derived.Stop.LaidErr
import Derived.Test.YthfoloefkfadlaaGreatDoorK2
import Derived.Test.YthfoloefkfadlaaGreatDoorT4
import GoSem.PinnedTables
set_option linter.unusedSimpArgs false
set_option linter.unusedVariables false
namespace Go.Proofs.YthfoloefkfadlaaGreatDoor
open Go Go.ChangeShapes Go.WideShapes Go.ChangeAt Go.RowKit
theorem ownP:ownKnob Tryz.prog.godebug=none:=by kernel_rfl
theorem zawt:laidOutB Tryz.prog=true:=by kernel_rfl
section
variable {H:Type} {enc:TypeId × Value→H} {w:World} {base:Nat} {spare:Nat→Bool} {held:Bool}
end
open Go Go.RowKit Go.Deep Go.ChangeShapes Go.ChangeMaps Go.WideShapes Go.ChangeAt
theorem gPow:Tryz.prog.globalNamed "internal/strconv.uint64pow10" = some 3:=by kernel_rfl
theorem zavz:(Tryz.prog.globals[3]?).map (·.type)=some 216:=by kernel_rfl
theorem zav0:Tryz.prog.cellsOf 216=20:=by kernel_rfl
theorem zayf:Tryz.prog.cellsOf 195=1:=by kernel_rfl
def fill (o:Obj) (k:IntKind) (zs:List Int):Obj:=match o with
 | .cells _ t frozen=>.cells (zs.map (Value.int k)).toArray t frozen
 | o=>o
theorem zasp {H:Type} {enc:TypeId × Value→H} {P:Program} {w:World} {base fuel:Nat} {spare:Nat→Bool} {held:Bool} {t e:TypeId} {a:Option Addr} {len cap:Nat} {x:DataW H × List MemPlace} (ht:P.underlying t=some (.slice e)) (he:P.underlying e=some (.int .u8)) (hc:P.cellsOf e=1)
 (h:DataW.trod enc P w base spare held fuel t [.slice a len cap]=some x):len≤cap∧cap≤maxLen∧Bytes w a len:=by
 rcases open_ints ht he hc h with ⟨hcs,_⟩|⟨y,l,c,zs,hcs,_,hl,hm,hz,_,hcell,hwz⟩
 · simp at hcs
   obtain ⟨rfl,rfl,rfl⟩:=hcs
   exact ⟨Nat.le_refl _,Nat.zero_le _,fun h=>absurd h qO⟩
 · simp at hcs
   obtain ⟨rfl,rfl,rfl⟩:=hcs
   have hlen:len≤zs.length:=by rw [hz];split <;> omega
   refine ⟨hl,hm,fun h0=>?_⟩
   have h1:=hcell 0 qO;have e1:=zauy h1;generalize y.block=b,y.off=o at e1;subst e1
   refine ⟨b,o,rfl,zalz (by simpa [Addr.add] using h1),fun j hj=>?_⟩
   have h2:=hcell j qO;rw [Addr.add_lit] at h2;have h3:=hwz (zs.getD j 0) (by rw [List.getD_eq_getElem?_getD,List.getElem?_eq_getElem (show j<zs.length by omega)];exact List.getElem_mem _)
   have h4:0≤zs.getD j 0∧zs.getD j 0≤255:=by simpa [Lit.wf,IntKind.min,IntKind.max,IntKind.signed,IntKind.bits] using h3
   exact ⟨(zs.getD j 0).toNat,by omega,by rw [h2,Int.toNat_of_nonneg h4.1]⟩
theorem zat2 {W W':World} {H:Type} {enc:TypeId × Value→H} {v0:Value} {d0:DataW H} {p0:List MemPlace} (k0:DataW.Trod enc Tryz.prog W 0 (fun _=>true) true 22 v0 d0 p0) (bel:Below W.heap.size W W'):DataW.Trod enc Tryz.prog W' 0 (fun b=>decide (b<W.heap.size)) true 22 v0 d0 p0:=by
 have lt0:∀ x ∈ p0,x.block<W.heap.size:=by obtain ⟨m,hm⟩:=k0;exact DataW.trod_lt m _ _ _ hm
 exact Below.trod zawt (by kernel_rfl) (of_decide_eq_true (by kernel_rfl)) k0 bel lt0
abbrev laidLL:List (String × DataW Unit):=[("math/bits.deBruijn32tab",Rows.laid_math_bits_deBruijn32tab),("math/bits.deBruijn64tab",Rows.laid_math_bits_deBruijn64tab),("internal/strconv.uint64pow10",Rows.laid_internal_strconv_uint64pow10),("unicode/utf8.acceptRanges",Rows.laid_unicode_utf8_acceptRanges),("strconv.ErrRange",Rows.laid_strconv_ErrRange),("strconv.ErrSyntax",Rows.laid_strconv_ErrSyntax),("unicode/utf8.first",Rows.laid_unicode_utf8_first)]
theorem zar3 : "*" ++ "errors.errorString" = "*errors.errorString" := by decide
theorem zat3 (u:TypeId) (h:Tryz.prog.typeName? 3 u=some "*errors.errorString"):u=222 :=
 typeName_ptr_named (nm := "errors.errorString") (by rw [zar3];kernel_rfl) (by kernel_rfl) (by decide) u (by rw [zar3];exact h)
theorem zav1:(Tryz.prog.globals[1]?).map (·.type)=some 112:=by kernel_rfl
theorem zav2:(Tryz.prog.globals[2]?).map (·.type)=some 112:=by kernel_rfl
theorem zaom:Tryz.prog.cellsOf 224=1:=by kernel_rfl
theorem zaon:Tryz.prog.cellsOf 9=1:=by kernel_rfl
theorem zaqx {W:World} (h:laidMet Tryz.prog laidLL W) (hsh:W.ShapedOpen Tryz.prog):Lby W:=by
 refine ⟨Lib.tabIs_of_head gPow zavz Tryz.underlying216 Tryz.underlying195 zayf zav0 h.tail.tail,Tryz.laysM145.s1_3 W hsh,?_,?_⟩
 · obtain ⟨a,s,h1,_⟩:=laid_sentinel h.tail.tail.tail.tail.tail gSyn zav1 Tryz.underlying112 zat3 Tryz.underlying222 Tryz.underlying224 rfl rfl Tryz.underlying9 zaom zaon
   exact ⟨_,_,h1⟩
 · obtain ⟨a,s,h1,_⟩:=laid_sentinel h.tail.tail.tail.tail gRng zav2 Tryz.underlying112 zat3 Tryz.underlying222 Tryz.underlying224 rfl rfl Tryz.underlying9 zaom zaon
   exact ⟨_,_,h1⟩
noncomputable def lowL:Nat:=(World.holding Tryz.prog default ⟨#[],#[],[]⟩).heap.size
def ptrObj (o:Obj) (b:Nat):Obj:=match o with
 | .cells _ t frozen=>.cells #[.iface 222 (.pointer (some ⟨b,0,none⟩))] t frozen
 | o=>o
noncomputable def laidWorldL (os:Os):World :=
 { World.holding Tryz.prog os ⟨#[.cells #[.string ⟨#[118,97,108,117,101,32,111,117,116,32,111,102,32,114,97,110,103,101]⟩] 224,.cells #[.string ⟨#[105,110,118,97,108,105,100,32,115,121,110,116,97,120]⟩] 224],#[],[]⟩ with heap:=((((((((World.holding Tryz.prog os ⟨#[.cells #[.string ⟨#[118,97,108,117,101,32,111,117,116,32,111,102,32,114,97,110,103,101]⟩] 224,.cells #[.string ⟨#[105,110,118,97,108,105,100,32,115,121,110,116,97,120]⟩] 224],#[],[]⟩).heap.modify 3 fun o=>fill o .u64 Lib.pow10Tab).modify 6 fun o=>fill o .u8 [0,1,28,2,29,14,24,3,30,22,20,15,25,17,4,8,31,27,13,23,21,19,16,7,26,12,18,6,11,5,10,9]).modify 7 fun o=>fill o .u8 [0,1,56,2,57,49,28,3,61,58,42,50,38,29,17,4,62,47,59,36,45,43,51,22,53,39,33,30,24,18,12,5,63,55,48,27,60,41,37,16,46,35,44,21,52,32,23,11,54,26,40,15,34,20,31,10,25,14,19,9,13,8,7,6]).modify 5 fun o=>fill o .u8 [128,191,160,191,128,159,144,191,128,143,0,0,0,0,0,0,0,0,0,0,0,0,0,0,0,0,0,0,0,0,0,0]).modify 4 fun o=>fill o .u8 (Go.Pinned.utf8FirstZ.map fun (n:Nat)=>(n:Int))).modify 2 fun o=>ptrObj o lowL).modify 1 fun o=>ptrObj o (lowL+1)) }
end Go.Proofs.YthfoloefkfadlaaGreatDoor
