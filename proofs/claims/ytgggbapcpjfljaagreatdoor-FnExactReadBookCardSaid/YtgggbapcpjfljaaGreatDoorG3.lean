/- Walks: copies of surveys (impl and spec), deeds fit. -/
import Derived.Test.YtgggbapcpjfljaaGreatDoorG2
import Derived.Test.YtgggbapcpjfljaaGreatDoorKap
import Derived.Deep.RegionWith
import Derived.Lib.SliceRun
namespace Go.Proofs.YtgggbapcpjfljaaGreatDoor
open Go Go.RowKit Go.Sort

/-- legs of the call's own -/
abbrev OwnL (w : World) (B : Nat) (v : Value) (l : List Lg) : Prop := KOwn legK 39 w B v l
theorem infoLeg : (Tryz.prog.info? 39).map (fun i => (i.zero, i.size, i.bytes)) = some (some (.agg #[.int .i64 0, .int .i64 0, .int .i64 0, .int .i64 0, .int .i64 0]), 5, 40) := by kernel_rfl

theorem legI : KInfo Tryz.prog legK 39 22 := by
  obtain ⟨i0, hi, hz0, hz1, hz2⟩ := info_parts infoLeg
  exact ⟨Tryz.underlying22, ⟨i0, _, 40, hi, hz0, hz1, hz2, rfl, by omega⟩, by decide⟩

theorem cloneLegs_any (a : Option Addr) (c : Nat) (l : List Lg) (w : World) (hl : l.length ≤ 1048576) (hs : Legs w a l) :
    Calls Tryz.prog 38 #[.slice a l.length c] w fun e w' => ∃ v, e = .returned v ∧ OwnL w' w.heap.size v l ∧ Below w.heap.size w w' := by
  have heq : ∀ (w : World) (a : Option Addr) (n c n' c' : Nat), (binOp .eql 22 (.slice a n c) (.slice none n' c')).run Tryz.prog w = .ok (.bool a.isNone) w := fun w a n c n' c' => Lib.run_eql_slice_nil w _ _ a n c n' c' Tryz.underlying22
  cases a with
  | none =>
    obtain rfl := hs.empty
    go_enter Tryz.func38, Tryz.ntmps38
    go_wp2
    go_ret
    exact ⟨_, rfl, KOwn.nil, Below.refl _ _⟩
  | some ad =>
    go_enter Tryz.func38, Tryz.ntmps38
    go_wp2_with (at_builtin; refine wpList_kApp legI _ _ rfl rfl w.heap.size _ [] l (some ad) c rfl (KOwn.lit w w.heap.size (Nat.le_refl _)) rfl (hs.below (by repeat (first | with_reducible assumption | exact Below.refl _ _ | refine below_drewN ?_ _ | refine Below.drew ?_ | refine Below.alloc ?_ (by first | omega | (simp; done) | (simp; omega)) _ | refine Below.setCell ?_ (by first | omega | (simp; done) | (simp; omega)) _))) (by simp) (by omega) (by simp) ?_; rintro av cv w1 o1 - b1 -)
    go_ret
    exact ⟨_, rfl, o1, Below.trans (by repeat (first | with_reducible assumption | exact Below.refl _ _ | refine below_drewN ?_ _ | refine Below.drew ?_ | refine Below.alloc ?_ (by first | omega | (simp; done) | (simp; omega)) _ | refine Below.setCell ?_ (by first | omega | (simp; done) | (simp; omega)) _)) b1⟩

/-- a survey comes back, its legs the call's own -/
def SvRet (s : Sv) (w : World) (e : Ending) (w' : World) : Prop := ∃ v, e = .returned (.agg #[.int .i64 s.st, v]) ∧ OwnL w' w.heap.size v s.legs ∧ Below w.heap.size w w'

theorem surveyCopy_any (a : Option Addr) (c : Nat) (n : Int) (l : List Lg) (w : World) (hl : l.length ≤ 1048576) (hs : Legs w a l) :
    Calls Tryz.prog 16 #[.agg #[.int .i64 n, .slice a l.length c]] w (SvRet ⟨n, l⟩ w) := by
  go_enter Tryz.func16, Tryz.ntmps16
  go_wp2_with fail
  obtain ⟨X, hX⟩ : ∃ X, w.heap.size = X := ⟨_, rfl⟩
  obtain ⟨W, hW⟩ : ∃ W, W = (w.alloc (.cells #[.int .i64 n, .slice a l.length c] 24)).alloc (.cells #[.int .i64 0, .slice none 0 0] 24) := ⟨_, rfl⟩
  have bW : Below w.heap.size w W := by rw [hW]; exact (by repeat (first | with_reducible assumption | exact Below.refl _ _ | refine below_drewN ?_ _ | refine Below.drew ?_ | refine Below.alloc ?_ (by first | omega | (simp; done) | (simp; omega)) _ | refine Below.setCell ?_ (by first | omega | (simp; done) | (simp; omega)) _))
  have c0 : W.cell? ⟨X, 0, none⟩ = some (.int .i64 n) := by rw [hW, ← hX]; simp
  have c1 : W.cell? ⟨X, 1, none⟩ = some (.slice a l.length c) := by rw [hW, ← hX]; simp
  have r0 : W.cell? ⟨X + 1, 0, none⟩ = some (.int .i64 0) := by rw [hW, ← hX]; simp
  have r1 : W.cell? ⟨X + 1, 1, none⟩ = some (.slice none 0 0) := by rw [hW, ← hX]; simp
  have f0 : W.frozen? ⟨X + 1, 0, none⟩ = false := by rw [hW, ← hX]; simp
  have f1 : W.frozen? ⟨X + 1, 1, none⟩ = false := by rw [hW, ← hX]; simp
  have hzX : X + 1 < W.heap.size := by rw [hW, ← hX]; simp
  rw [hX, ← hW]
  have pW := hs.below bW
  clear hW
  go_loud (go_region_with (go_at_call 38; refine (cloneLegs_any _ _ l _ hl (pW.below (by repeat (first | exact Below.refl _ _ | refine Below.drew ?_)))).mono ?_; rintro e w1 ⟨v, rfl, o1, b1⟩; obtain ⟨av, cv, rfl⟩ := o1.sl; have b2 : Below W.heap.size W w1 := Below.trans (by repeat (first | exact Below.refl _ _ | refine Below.drew ?_)) (b1.mono (by simp)); have p0 := (b2.cell (p := ⟨X, 0, none⟩) (by show X < _; omega)).trans c0; have p1 := (b2.cell (p := ⟨X, 1, none⟩) (by show X < _; omega)).trans c1; have q0 := (b2.cell (p := ⟨X + 1, 0, none⟩) hzX).trans r0; have q1 := (b2.cell (p := ⟨X + 1, 1, none⟩) hzX).trans r1; have g0 := (b2.frozen (p := ⟨X + 1, 0, none⟩) hzX).trans f0; have g1 := (b2.frozen (p := ⟨X + 1, 1, none⟩) hzX).trans f1; clear b1))
  all_goals
    clear c0 c1 r0 r1 f0 f1
    have hz2 : W.heap.size ≤ w1.heap.size := b2.size
    have bF : Below w.heap.size w ((w1.setCell ⟨X + 1, 0, none⟩ (.int .i64 n)).setCell ⟨X + 1, 1, none⟩ (.slice av l.length cv)) :=
      ((bW.trans (b2.mono bW.size)).setCell (by show _ ≤ X + 1; omega) _).setCell (by show _ ≤ X + 1; omega) _
    have oF := ((o1.setCell (p := ⟨X + 1, 0, none⟩) hzX (.int .i64 n)).setCell (p := ⟨X + 1, 1, none⟩) hzX (.slice av l.length cv)).mono bW.size
    go_wp2
    exact bodyPost_ret (v := .agg #[.int .i64 n, .slice av l.length cv]) (by simp [results, Tryz.results16, go_sem, q0, q1]) rfl ⟨_, rfl, oF, bF⟩

theorem l7Survey_any (a : Option Addr) (c : Nat) (n : Int) (l : List Lg) (w : World) (hl : l.length ≤ 1048576) (hs : Legs w a l) :
    Calls Tryz.prog 11 #[.agg #[.int .i64 n, .slice a l.length c]] w (SvRet ⟨n, l⟩ w) := by
  go_enter Tryz.func11, Tryz.ntmps11
  go_wp2_with fail
  obtain ⟨X, hX⟩ : ∃ X, w.heap.size = X := ⟨_, rfl⟩
  obtain ⟨W, hW⟩ : ∃ W, W = (w.alloc (.cells #[.int .i64 n, .slice a l.length c] 24)).alloc (.cells #[.int .i64 0, .slice none 0 0] 24) := ⟨_, rfl⟩
  have bW : Below w.heap.size w W := by rw [hW]; exact (by repeat (first | with_reducible assumption | exact Below.refl _ _ | refine below_drewN ?_ _ | refine Below.drew ?_ | refine Below.alloc ?_ (by first | omega | (simp; done) | (simp; omega)) _ | refine Below.setCell ?_ (by first | omega | (simp; done) | (simp; omega)) _))
  have c0 : W.cell? ⟨X, 0, none⟩ = some (.int .i64 n) := by rw [hW, ← hX]; simp
  have c1 : W.cell? ⟨X, 1, none⟩ = some (.slice a l.length c) := by rw [hW, ← hX]; simp
  have r0 : W.cell? ⟨X + 1, 0, none⟩ = some (.int .i64 0) := by rw [hW, ← hX]; simp
  have r1 : W.cell? ⟨X + 1, 1, none⟩ = some (.slice none 0 0) := by rw [hW, ← hX]; simp
  have f0 : W.frozen? ⟨X + 1, 0, none⟩ = false := by rw [hW, ← hX]; simp
  have f1 : W.frozen? ⟨X + 1, 1, none⟩ = false := by rw [hW, ← hX]; simp
  have hzX : X + 1 < W.heap.size := by rw [hW, ← hX]; simp
  have hzX' : X < W.heap.size := by omega
  rw [hX, ← hW]
  have pW := hs.below bW
  clear hW
  go_loud (go_region_law (refine step_kApp legI (.tmp 5) (.tmp 7) (by rfl) (by rfl) W.heap.size _ [] l a c (by rfl) (KOwn.lit _ _ (by simp)) (by rfl) (pW.below (by repeat (first | exact Below.refl _ _ | refine Below.drew ?_ | refine Below.alloc ?_ (by first | omega | (simp; omega)) _))) (by simp) (by omega) (by simp) ?_; rintro av cv w1 o1 - b1 -; have b2 : Below W.heap.size W w1 := Below.trans (by repeat (first | exact Below.refl _ _ | refine Below.drew ?_ | refine Below.alloc ?_ (by first | omega | (simp; omega)) _)) b1; have p0 := (b2.cell (p := ⟨X, 0, none⟩) (by show X < _; omega)).trans c0; have p1 := (b2.cell (p := ⟨X, 1, none⟩) (by show X < _; omega)).trans c1; have q0 := (b2.cell (p := ⟨X + 1, 0, none⟩) hzX).trans r0; have q1 := (b2.cell (p := ⟨X + 1, 1, none⟩) hzX).trans r1; have g0 := (b2.frozen (p := ⟨X + 1, 0, none⟩) hzX).trans f0; have g1 := (b2.frozen (p := ⟨X + 1, 1, none⟩) hzX).trans f1; clear b1))
  all_goals
    clear c0 c1 r0 r1 f0 f1
    have hz2 : W.heap.size ≤ w1.heap.size := b2.size
    have bF : Below w.heap.size w ((w1.setCell ⟨X + 1, 0, none⟩ (.int .i64 n)).setCell ⟨X + 1, 1, none⟩ (.slice av l.length cv)) :=
      ((bW.trans (b2.mono bW.size)).setCell (by show _ ≤ X + 1; omega) _).setCell (by show _ ≤ X + 1; omega) _
    have oF := ((o1.setCell (p := ⟨X + 1, 0, none⟩) hzX (.int .i64 n)).setCell (p := ⟨X + 1, 1, none⟩) hzX (.slice av l.length cv)).mono bW.size
    go_wp2
    exact bodyPost_ret (v := .agg #[.int .i64 n, .slice av l.length cv]) (by simp [results, Tryz.results11, go_sem, q0, q1]) rfl ⟨_, rfl, oF, bF⟩
end Go.Proofs.YtgggbapcpjfljaaGreatDoor
