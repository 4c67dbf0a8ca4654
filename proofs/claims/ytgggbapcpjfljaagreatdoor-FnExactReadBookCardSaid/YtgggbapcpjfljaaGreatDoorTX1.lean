/- Walks: texts of legs: strconv.Itoa, impl.wayText, impl.legWay, impl.LegText. -/
import Derived.Test.YtgggbapcpjfljaaGreatDoorG1
import Derived.Test.YtgggbapcpjfljaaGreatDoorShelf
import Derived.Lib.QuietBelow
import Derived.Lib.ItoaLen
import Derived.Lib.AppendIntMem
namespace Go.Proofs.YtgggbapcpjfljaaGreatDoor
open Go Go.RowKit Go.Sort

/-- the library's table lies in memory -/
def Pow (w : World) : Prop := Lib.TabIs Tryz.prog w "internal/strconv.uint64pow10" .u64 Lib.pow10Tab
theorem Pow.below {w w' : World} (h : Pow w) (hb : Below w.heap.size w w') : Pow w' := Lib.tabBelow_of_tabIs h w' hb

def itoaB (n : Int) : ByteArray := ⟨(Lib.itoa n).toArray⟩
theorem itoaB_size {n : Int} (h0 : -9223372036854775808 ≤ n) (h1 : n ≤ 9223372036854775807) : (itoaB n).size ≤ 21 := by
  have := Lib.itoa_length_le n h0 h1
  simpa [itoaB, ByteArray.size] using this

theorem itoa_any (n : Int) (h0 : -9223372036854775808 ≤ n) (h1 : n ≤ 9223372036854775807) (w : World) (h : Pow w) :
    Calls Tryz.prog 62 #[.int .i64 n] w fun e w' => e = .returned (.string (itoaB n)) ∧ Below w.heap.size w w' :=
  (Tryz.strconv_Itoa n h0 h1 w h).mono fun e w' ⟨he, k, os, hw⟩ => ⟨he, by
    subst hw
    exact ⟨rfl, rfl, rfl, by simp [grow, World.drewN], fun j hj => by simp [grow, World.drewN, Array.getElem?_append, hj]⟩⟩

theorem grown_calls {f : FuncId} {args : Array Value} {w : World} {v : Value} (hp : Pow w)
    (h : ∀ w, Pow w → Calls Tryz.prog f args w fun e w' => e = .returned v ∧ Below w.heap.size w w') (d : Nat) (os : Array Obj) :
    Calls Tryz.prog f args (grow (redrawn w d) os) fun e w'' => e = .returned v ∧ ∃ p : Regrown, w'' = grow (redrawn w p.d) p.os :=
  Calls.regrown_of (h _ (hp.below (below_regrown w d os)))

def comma : ByteArray := ⟨#[44]⟩
def wayB (a b c : Int) : ByteArray := itoaB a ++ ⟨#[44]⟩ ++ itoaB b ++ ⟨#[44]⟩ ++ itoaB c
theorem bytes_app (a b : ByteArray) : (a ++ b).size = a.size + b.size := by simp

theorem wayText_any (a b c : Int) (ha : -9223372036854775808 ≤ a ∧ a ≤ 9223372036854775807) (hb : -9223372036854775808 ≤ b ∧ b ≤ 9223372036854775807) (hc : -9223372036854775808 ≤ c ∧ c ≤ 9223372036854775807) (w : World) (hp : Pow w) :
    Calls Tryz.prog 77 #[.agg #[.int .i64 a, .int .i64 b, .int .i64 c]] w fun e w' => e = .returned (.string (wayB a b c)) ∧ Below w.heap.size w w' := by
  have s1 := itoaB_size ha.1 ha.2
  have s2 := itoaB_size hb.1 hb.2
  have s3 := itoaB_size hc.1 hc.2
  go_enter Tryz.func77, Tryz.ntmps77
  go_wp2_with fail
  obtain ⟨W, hW⟩ : ∃ W, W = w.alloc (.cells #[.int .i64 a, .int .i64 b, .int .i64 c] 94) := ⟨_, rfl⟩
  have bW : Below w.heap.size w W := by rw [hW]; exact (by repeat (first | with_reducible assumption | exact Below.refl _ _ | refine below_drewN ?_ _ | refine Below.drew ?_ | refine Below.alloc ?_ (by first | omega | (simp; done) | (simp; omega)) _ | refine Below.setCell ?_ (by first | omega | (simp; done) | (simp; omega)) _))
  have c1 : W.cell? ⟨w.heap.size, 0, none⟩ = some (.int .i64 a) := by rw [hW]; simp
  have c2 : W.cell? ⟨w.heap.size, 1, none⟩ = some (.int .i64 b) := by rw [hW]; simp
  have c3 : W.cell? ⟨w.heap.size, 2, none⟩ = some (.int .i64 c) := by rw [hW]; simp
  rw [← hW]
  have pW := hp.below bW
  clear hW
  have k1 := cell_regrown c1
  have k2 := cell_regrown c2
  have k3 := cell_regrown c3
  have i1 := grown_calls pW (itoa_any a ha.1 ha.2)
  have i2 := grown_calls pW (itoa_any b hb.1 hb.2)
  have i3 := grown_calls pW (itoa_any c hc.1 hc.2)
  have n1 : ¬ 9223372036854775807 < (itoaB a).size + 1 := by omega
  have n2 : ¬ 9223372036854775807 < (itoaB a).size + 1 + (itoaB b).size := by omega
  have n3 : ¬ 9223372036854775807 < (itoaB a).size + 1 + (itoaB b).size + 1 := by omega
  have n4 : ¬ 9223372036854775807 < (itoaB a).size + 1 + (itoaB b).size + 1 + (itoaB c).size := by omega
  refine wp_region_quiet_below (by kernel_rfl) (by kernel_rfl) ?_
  repeat (quiet_step (first | with_reducible exact i1 _ _ | with_reducible exact i2 _ _ | with_reducible exact i3 _ _))
  refine wpQuiet_nil ?_
  intro _ hw'
  obtain ⟨⟨dq, osq⟩, hw''⟩ := hw'
  have fin : Below w.heap.size w (grow (redrawn W dq) osq) := bW.trans ((below_regrown W dq osq).mono bW.size)
  subst hw''
  generalize grow (redrawn W dq) osq = W2 at fin ⊢
  go_wp2
  go_ret
  exact ⟨by simp only [wayB]; rfl, fin⟩

theorem legWay_any (g : Lg) (w : World) :
    Calls Tryz.prog 78 #[g.val] w fun e w' => e = .returned (.agg #[.int .i64 g.east, .int .i64 g.north, .int .i64 g.up]) ∧ Below w.heap.size w w' := by
  obtain ⟨x1, x2, x3, x4, x5⟩ := g
  show Calls Tryz.prog 78 #[.agg #[.int .i64 x1, .int .i64 x2, .int .i64 x3, .int .i64 x4, .int .i64 x5]] w _
  go_enter Tryz.func78, Tryz.ntmps78
  go_wp2
  refine bodyPost_ret (v := .agg #[.int .i64 x3, .int .i64 x4, .int .i64 x5]) (by simp [results, Tryz.results78, go_sem]) rfl ⟨rfl, (by repeat (first | with_reducible assumption | exact Below.refl _ _ | refine below_drewN ?_ _ | refine Below.drew ?_ | refine Below.alloc ?_ (by first | omega | (simp; done) | (simp; omega)) _ | refine Below.setCell ?_ (by first | omega | (simp; done) | (simp; omega)) _))⟩

def legB (g : Lg) : ByteArray := if legOk 6 g then itoaB g.frm ++ ⟨#[62]⟩ ++ itoaB g.to ++ ⟨#[58]⟩ ++ wayB g.east g.north g.up else ⟨#[]⟩

theorem legText_any (g : Lg) (w : World) (hp : Pow w) :
    Calls Tryz.prog 61 #[g.val] w fun e w' => e = .returned (.string (legB g)) ∧ Below w.heap.size w w' := by
  cases hv : legOk 6 g
  · have hB : legB g = ⟨#[]⟩ := by simp [legB, hv]
    obtain ⟨x1, x2, x3, x4, x5⟩ := g
    show Calls Tryz.prog 61 #[.agg #[.int .i64 x1, .int .i64 x2, .int .i64 x3, .int .i64 x4, .int .i64 x5]] w _
    have HB := Lib.hid hB
    clear hB
    go_enter Tryz.func61, Tryz.ntmps61
    go_wp2_with (go_at_call 64; refine (legValid_any 6 ⟨x1, x2, x3, x4, x5⟩ _).mono ?_; rintro e w' ⟨rfl, hb⟩)
    go_ret
    exact ⟨by rw [HB.out]; rfl, ((Below.refl _ _).alloc (Nat.le_refl _) _).trans (hb.mono (by simp))⟩
  obtain ⟨hr1, hr2, hr3, hr4, hr5⟩ := legOk_range (by omega) hv
  have hB : legB g = itoaB g.frm ++ ⟨#[62]⟩ ++ itoaB g.to ++ ⟨#[58]⟩ ++ wayB g.east g.north g.up := by simp [legB, hv]
  obtain ⟨x1, x2, x3, x4, x5⟩ := g
  simp only at hr1 hr2 hr3 hr4 hr5 hB
  show Calls Tryz.prog 61 #[.agg #[.int .i64 x1, .int .i64 x2, .int .i64 x3, .int .i64 x4, .int .i64 x5]] w _
  have HB := Lib.hid hB
  clear hB
  have s1 := itoaB_size (n := x1) (by omega) (by omega)
  have s2 := itoaB_size (n := x2) (by omega) (by omega)
  have s3 := itoaB_size (n := x3) (by omega) (by omega)
  have s4 := itoaB_size (n := x4) (by omega) (by omega)
  have s5 := itoaB_size (n := x5) (by omega) (by omega)
  have s6 : (wayB x3 x4 x5).size ≤ 65 := by unfold wayB; simp only [ByteArray.size_append]; show _ + 1 + _ + 1 + _ ≤ _; omega
  go_enter Tryz.func61, Tryz.ntmps61
  go_wp2_with (go_at_call 64; refine (legValid_any 6 ⟨x1, x2, x3, x4, x5⟩ _).mono ?_; rintro e W ⟨rfl, hb⟩)
  have bW : Below w.heap.size w W := ((Below.refl _ _).alloc (Nat.le_refl _) _).trans (hb.mono (by simp))
  have cc := fun i => hb.cell (p := ⟨w.heap.size, i, none⟩) (by simp)
  have c1 : W.cell? ⟨w.heap.size, 0, none⟩ = some (.int .i64 x1) := by rw [cc]; simp
  have c2 : W.cell? ⟨w.heap.size, 1, none⟩ = some (.int .i64 x2) := by rw [cc]; simp
  have c3 : W.cell? ⟨w.heap.size, 2, none⟩ = some (.int .i64 x3) := by rw [cc]; simp
  have c4 : W.cell? ⟨w.heap.size, 3, none⟩ = some (.int .i64 x4) := by rw [cc]; simp
  have c5 : W.cell? ⟨w.heap.size, 4, none⟩ = some (.int .i64 x5) := by rw [cc]; simp
  have pW := hp.below bW
  clear cc hb
  have k1 := cell_regrown c1
  have k2 := cell_regrown c2
  have k3 := cell_regrown c3
  have k4 := cell_regrown c4
  have k5 := cell_regrown c5
  have i1 := grown_calls pW (itoa_any x1 (by omega) (by omega))
  have i2 := grown_calls pW (itoa_any x2 (by omega) (by omega))
  have i3 := grown_calls pW (fun w _ => legWay_any ⟨x1, x2, x3, x4, x5⟩ w)
  have i4 := grown_calls pW (wayText_any x3 x4 x5 (by omega) (by omega) (by omega))
  simp only [Lg.val] at i3
  have n1 : ¬ 9223372036854775807 < (itoaB x1).size + 1 := by omega
  have n2 : ¬ 9223372036854775807 < (itoaB x1).size + 1 + (itoaB x2).size := by omega
  have n3 : ¬ 9223372036854775807 < (itoaB x1).size + 1 + (itoaB x2).size + 1 := by omega
  have n4 : ¬ 9223372036854775807 < (itoaB x1).size + 1 + (itoaB x2).size + 1 + (wayB x3 x4 x5).size := by omega
  refine wp_region_quiet_below (by kernel_rfl) (by kernel_rfl) ?_
  repeat (quiet_step (first | with_reducible exact i1 _ _ | with_reducible exact i2 _ _ | with_reducible exact i3 _ _ | with_reducible exact i4 _ _))
  refine wpQuiet_nil ?_
  intro _ hw'
  obtain ⟨⟨dq, osq⟩, hw''⟩ := hw'
  have fin : Below w.heap.size w (grow (redrawn W dq) osq) := bW.trans ((below_regrown W dq osq).mono bW.size)
  subst hw''
  generalize grow (redrawn W dq) osq = W2 at fin ⊢
  go_wp2
  go_ret
  exact ⟨by rw [HB.out]; rfl, fin⟩

end Go.Proofs.YtgggbapcpjfljaaGreatDoor
