/- What the rows of texts want: the library's tables, a world for the witness. -/
import Derived.Test.YtgggbapcpjfljaaGreatDoorTie
import Derived.Test.YtgggbapcpjfljaaGreatDoorTX1
import Derived.Test.YtgggbapcpjfljaaGreatDoorRB
import Derived.Deep.DeepHandedRow
import Derived.Lib.LaidTab
import Derived.Stop.LaidErr
namespace Go.Proofs.YtgggbapcpjfljaaGreatDoor
open Go Go.RowKit Go.Deep Go.ChangeShapes Go.ChangeMaps Go.WideShapes Go.ChangeAt

theorem gPow : Tryz.prog.globalNamed "internal/strconv.uint64pow10" = some 3 := by kernel_rfl
theorem gPowType : (Tryz.prog.globals[3]?).map (·.type) = some 123 := by kernel_rfl
theorem cellsPow : Tryz.prog.cellsOf 123 = 20 := by kernel_rfl
theorem cellsU : Tryz.prog.cellsOf 101 = 1 := by kernel_rfl

abbrev laidL : List (String × DataW Unit) := [("math/bits.deBruijn32tab", Rows.laid_math_bits_deBruijn32tab), ("math/bits.deBruijn64tab", Rows.laid_math_bits_deBruijn64tab), ("internal/strconv.uint64pow10", Rows.laid_internal_strconv_uint64pow10)]
theorem pow_of_laid {W : World} (h : laidMet Tryz.prog laidL W) : Pow W :=
  Lib.tabIs_of_head (rest := []) gPow gPowType Tryz.underlying123 Tryz.underlying101 cellsU cellsPow h.tail.tail

def fill (o : Obj) (k : IntKind) (zs : List Int) : Obj := match o with
  | .cells _ t frozen => .cells (zs.map (Value.int k)).toArray t frozen
  | o => o
/-- a world for the witness: the settled one, each table holding what its initialiser lays -/
noncomputable def laidWorld (os : Os) : World :=
  { World.holding Tryz.prog os ⟨#[], #[], []⟩ with heap := (((World.holding Tryz.prog os ⟨#[], #[], []⟩).heap.modify 3 fun o => fill o .u64 Lib.pow10Tab).modify 6 fun o => fill o .u8 [0, 1, 28, 2, 29, 14, 24, 3, 30, 22, 20, 15, 25, 17, 4, 8, 31, 27, 13, 23, 21, 19, 16, 7, 26, 12, 18, 6, 11, 5, 10, 9]).modify 7 fun o => fill o .u8 [0, 1, 56, 2, 57, 49, 28, 3, 61, 58, 42, 50, 38, 29, 17, 4, 62, 47, 59, 36, 45, 43, 51, 22, 53, 39, 33, 30, 24, 18, 12, 5, 63, 55, 48, 27, 60, 41, 37, 16, 46, 35, 44, 21, 52, 32, 23, 11, 54, 26, 40, 15, 34, 20, 31, 10, 25, 14, 19, 9, 13, 8, 7, 6] }
end Go.Proofs.YtgggbapcpjfljaaGreatDoor
