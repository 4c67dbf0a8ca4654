/- The law FnExactReadDeed, walked: for every text it returns true, and leaves memory as it was. -/
import Derived.Test.YtmckkhncbocfhaaDoorT5
set_option linter.unusedSimpArgs false
set_option linter.unusedVariables false
namespace Go.Proofs.YtmckkhncbocfhaaDoor
open Go Go.RowKit Go.Sort

set_option maxRecDepth 100000 in
set_option maxHeartbeats 1000000 in
theorem exactReadDeed (s : ByteArray) (w : World) (hs : s.size ≤ 9223372036854775807) (hw : Lby w) :
    Calls Tryd.prog 3 #[.string s] w fun e w' => e = .returned (.bool true) ∧ Below w.heap.size w w' := by
  by_cases hb : 1048576 < s.size
  · have hb2 : (1048576 : Int) < s.size := by omega
    go_enter Tryd.func3, Tryd.ntmps3
    go_wp2_with fail
    go_ret
    exact ⟨rfl, (by repeat (first | with_reducible assumption | exact Below.refl _ _ | refine below_drewN ?_ _ | refine Below.drew ?_ | refine Below.alloc ?_ (by first | omega | (simp; done) | (simp; omega)) _ | refine Below.setCell ?_ (by first | omega | (simp; done) | (simp; omega)) _))⟩
  have hb2 : ¬ (1048576 : Int) < s.size := by omega
  have i1 := fun w => sreadDeed_any s w (by omega)
  have i2 := fun w hw => readDeed_any s w (by omega) hw
  obtain ⟨pr, hpr⟩ : ∃ pr, rdDdD s = pr := ⟨_, rfl⟩
  rw [hpr] at i1 i2
  clear hpr
  have i3 := eqBookDeed_any pr.1
  obtain ⟨⟨kd, ix, ⟨x1, x2, x3, x4, x5⟩⟩, b⟩ := pr
  simp only [Dd.val] at i3
  go_enter Tryd.func3, Tryd.ntmps3
  go_wp2_with fail
  refine (i1 _).mono ?_
  rintro e w1 ⟨rfl, b1⟩
  simp only
  have hbb : (b != b) = false := by simp
  have h1 := hw.below (b1.alloc b1.size (.cells #[.int .i64 kd, .int .i64 ix, .int .i64 x1, .int .i64 x2, .int .i64 x3, .int .i64 x4, .int .i64 x5] 25))
  go_wp2_with fail
  refine (i2 _ h1).mono ?_
  rintro e w2 ⟨rfl, b2⟩
  simp only
  obtain ⟨X, hX⟩ : ∃ X, w1.heap.size = X := ⟨_, rfl⟩
  have A1 : At w2 X [.int .i64 kd, .int .i64 ix, .int .i64 x1, .int .i64 x2, .int .i64 x3, .int .i64 x4, .int .i64 x5] := (At.new w1 #[.int .i64 kd, .int .i64 ix, .int .i64 x1, .int .i64 x2, .int .i64 x3, .int .i64 x4, .int .i64 x5] 25 hX.symm rfl).below b2
  have b3 : Below w.heap.size w w2 := (b1.alloc b1.size _).trans (b2.mono (b1.alloc b1.size _).size)
  rw [hX]
  clear b1 b2 h1 i1 i2
  obtain ⟨r, r0, r1, r2, r3, r4, r5, r6, rf⟩ := A1.facts7
  go_wp2_with fail
  refine (i3 _).mono ?_
  rintro e w4 ⟨rfl, b4⟩
  go_wp2_with fail
  go_ret
  exact ⟨rfl, (b3.alloc b3.size _).trans (b4.mono (b3.alloc b3.size _).size)⟩
end Go.Proofs.YtmckkhncbocfhaaDoor
