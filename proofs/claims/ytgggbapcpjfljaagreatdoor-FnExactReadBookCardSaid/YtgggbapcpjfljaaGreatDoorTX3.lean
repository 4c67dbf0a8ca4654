/- Walks: texts of legs in the reference; names of the kinds of deeds in both. -/
import Derived.Test.YtgggbapcpjfljaaGreatDoorTX2
import Derived.Test.YtgggbapcpjfljaaGreatDoorG4
namespace Go.Proofs.YtgggbapcpjfljaaGreatDoor
open Go Go.RowKit Go.Sort

theorem slegText_any (g : Lg) (w : World) :
    Calls Tryz.prog 54 #[g.val] w fun e w' => e = .returned (.string (legB g)) ∧ Below w.heap.size w w' := by
  cases hv : legOk 6 g
  · have hB : legB g = ⟨#[]⟩ := by simp [legB, hv]
    obtain ⟨x1, x2, x3, x4, x5⟩ := g
    show Calls Tryz.prog 54 #[.agg #[.int .i64 x1, .int .i64 x2, .int .i64 x3, .int .i64 x4, .int .i64 x5]] w _
    have HB := Lib.hid hB
    clear hB
    go_enter Tryz.func54, Tryz.ntmps54
    go_wp2_with (go_at_call 56; refine (slegValid_any 6 ⟨x1, x2, x3, x4, x5⟩ _).mono ?_; rintro e w' ⟨rfl, hb⟩)
    go_ret
    exact ⟨by rw [HB.out]; rfl, ((Below.refl _ _).alloc (Nat.le_refl _) _).trans (hb.mono (by simp))⟩
  obtain ⟨hr1, hr2, hr3, hr4, hr5⟩ := legOk_range (by omega) hv
  have hB : legB g = itoaB g.frm ++ ⟨#[62]⟩ ++ itoaB g.to ++ ⟨#[58]⟩ ++ itoaB g.east ++ ⟨#[44]⟩ ++ itoaB g.north ++ ⟨#[44]⟩ ++ itoaB g.up := by
    simp [legB, hv, wayB, ByteArray.append_assoc]
  obtain ⟨x1, x2, x3, x4, x5⟩ := g
  simp only at hr1 hr2 hr3 hr4 hr5 hB
  show Calls Tryz.prog 54 #[.agg #[.int .i64 x1, .int .i64 x2, .int .i64 x3, .int .i64 x4, .int .i64 x5]] w _
  have HB := Lib.hid hB
  clear hB
  have s1 := itoaB_size (n := x1) (by omega) (by omega)
  have s2 := itoaB_size (n := x2) (by omega) (by omega)
  have s3 := itoaB_size (n := x3) (by omega) (by omega)
  have s4 := itoaB_size (n := x4) (by omega) (by omega)
  have s5 := itoaB_size (n := x5) (by omega) (by omega)
  go_enter Tryz.func54, Tryz.ntmps54
  go_wp2_with (go_at_call 56; refine (slegValid_any 6 ⟨x1, x2, x3, x4, x5⟩ _).mono ?_; rintro e W ⟨rfl, hb⟩)
  have bW : Below w.heap.size w W := ((Below.refl _ _).alloc (Nat.le_refl _) _).trans (hb.mono (by simp))
  have cc := fun i => hb.cell (p := ⟨w.heap.size, i, none⟩) (by simp)
  have c1 : W.cell? ⟨w.heap.size, 0, none⟩ = some (.int .i64 x1) := by rw [cc]; simp
  have c2 : W.cell? ⟨w.heap.size, 1, none⟩ = some (.int .i64 x2) := by rw [cc]; simp
  have c3 : W.cell? ⟨w.heap.size, 2, none⟩ = some (.int .i64 x3) := by rw [cc]; simp
  have c4 : W.cell? ⟨w.heap.size, 3, none⟩ = some (.int .i64 x4) := by rw [cc]; simp
  have c5 : W.cell? ⟨w.heap.size, 4, none⟩ = some (.int .i64 x5) := by rw [cc]; simp
  clear cc hb
  have k1 := cell_regrown c1
  have k2 := cell_regrown c2
  have k3 := cell_regrown c3
  have k4 := cell_regrown c4
  have k5 := cell_regrown c5
  have i1 := fun d os => Calls.regrown_of (l1Num_any x1 (by omega) (by omega) (grow (redrawn W d) os))
  have i2 := fun d os => Calls.regrown_of (l1Num_any x2 (by omega) (by omega) (grow (redrawn W d) os))
  have i3 := fun d os => Calls.regrown_of (l1Num_any x3 (by omega) (by omega) (grow (redrawn W d) os))
  have i4 := fun d os => Calls.regrown_of (l1Num_any x4 (by omega) (by omega) (grow (redrawn W d) os))
  have i5 := fun d os => Calls.regrown_of (l1Num_any x5 (by omega) (by omega) (grow (redrawn W d) os))
  have n1 : ¬ 9223372036854775807 < (itoaB x1).size + 1 := by omega
  have n2 : ¬ 9223372036854775807 < (itoaB x1).size + 1 + (itoaB x2).size := by omega
  have n3 : ¬ 9223372036854775807 < (itoaB x1).size + 1 + (itoaB x2).size + 1 := by omega
  have n4 : ¬ 9223372036854775807 < (itoaB x1).size + 1 + (itoaB x2).size + 1 + (itoaB x3).size := by omega
  have n5 : ¬ 9223372036854775807 < (itoaB x1).size + 1 + (itoaB x2).size + 1 + (itoaB x3).size + 1 := by omega
  have n6 : ¬ 9223372036854775807 < (itoaB x1).size + 1 + (itoaB x2).size + 1 + (itoaB x3).size + 1 + (itoaB x4).size := by omega
  have n7 : ¬ 9223372036854775807 < (itoaB x1).size + 1 + (itoaB x2).size + 1 + (itoaB x3).size + 1 + (itoaB x4).size + 1 := by omega
  have n8 : ¬ 9223372036854775807 < (itoaB x1).size + 1 + (itoaB x2).size + 1 + (itoaB x3).size + 1 + (itoaB x4).size + 1 + (itoaB x5).size := by omega
  refine wp_region_quiet_below (by kernel_rfl) (by kernel_rfl) ?_
  repeat (quiet_step (first | with_reducible exact i1 _ _ | with_reducible exact i2 _ _ | with_reducible exact i3 _ _ | with_reducible exact i4 _ _ | with_reducible exact i5 _ _))
  refine wpQuiet_nil ?_
  intro _ hw'
  obtain ⟨⟨dq, osq⟩, hw''⟩ := hw'
  have fin : Below w.heap.size w (grow (redrawn W dq) osq) := bW.trans ((below_regrown W dq osq).mono bW.size)
  subst hw''
  generalize grow (redrawn W dq) osq = W2 at fin ⊢
  go_wp2
  go_ret
  exact ⟨by rw [HB.out]; rfl, fin⟩

/-- the name of a kind of deed -/
def nameB (k : Int) : ByteArray := if k = 0 then ⟨#[112, 117, 116]⟩ else if k = 1 then ⟨#[100, 114, 111, 112]⟩ else if k = 2 then ⟨#[116, 117, 114, 110]⟩ else if k = 3 then ⟨#[115, 101, 116]⟩ else if k = 4 then ⟨#[109, 111, 114, 101]⟩ else ⟨#[108, 101, 115, 115]⟩

theorem deedWord_any (k : Int) (h : 0 ≤ k ∧ k ≤ 5) (w : World) : Calls Tryz.prog 40 #[.int .i64 k] w fun e w' => e = .returned (.string (nameB k)) ∧ w = w' := by
  have hk : k = 0 ∨ k = 1 ∨ k = 2 ∨ k = 3 ∨ k = 4 ∨ k = 5 := by omega
  clear h
  rcases hk with rfl | rfl | rfl | rfl | rfl | rfl
  all_goals
    go_enter Tryz.func40, Tryz.ntmps40
    go_wp2
    go_ret
    exact ⟨rfl, rfl⟩

set_option maxRecDepth 100000 in
theorem l7Name_any (k : Int) (h : 0 ≤ k ∧ k ≤ 5) (w : World) : Calls Tryz.prog 28 #[.int .i64 k] w fun e w' => e = .returned (.string (nameB k)) ∧ Below w.heap.size w w' := by
  have hk : k = 0 ∨ k = 1 ∨ k = 2 ∨ k = 3 ∨ k = 4 ∨ k = 5 := by omega
  clear h
  rcases hk with rfl | rfl | rfl | rfl | rfl | rfl
  all_goals
    go_enter Tryz.func28, Tryz.ntmps28
    go_wp2
    go_ret
    exact ⟨rfl, (by repeat (first | with_reducible assumption | exact Below.refl _ _ | refine below_drewN ?_ _ | refine Below.drew ?_ | refine Below.alloc ?_ (by first | omega | (simp; done) | (simp; omega)) _ | refine Below.setCell ?_ (by first | omega | (simp; done) | (simp; omega)) _))⟩
end Go.Proofs.YtgggbapcpjfljaaGreatDoor
