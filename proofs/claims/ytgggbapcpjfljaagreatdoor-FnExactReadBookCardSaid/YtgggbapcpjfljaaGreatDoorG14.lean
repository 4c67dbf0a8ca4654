/- Walks: the laws' helpers on legs and surveys: size, copy, equality, marks. -/
import Derived.Test.YtgggbapcpjfljaaGreatDoorG5
import Derived.Test.YtgggbapcpjfljaaGreatDoorKrow
namespace Go.Proofs.YtgggbapcpjfljaaGreatDoor
open Go Go.RowKit Go.Sort

/-! ### sizes -/
def szL (n : Nat) (left : Int) : Int := if left - n < 0 then -1 else left - n
theorem szL_range (n : Nat) (left : Int) (h1 : left ≤ 1048576) : -1 ≤ szL n left ∧ szL n left ≤ 1048576 := by
  unfold szL; split <;> omega
theorem szL_le {n : Nat} {left : Int} (h : ¬ szL n left < 0) : (n : Int) ≤ left ∧ szL n left = left - n := by
  unfold szL at h ⊢
  split at h
  · omega
  · rename_i h'; rw [if_neg h']; omega
/-! ### copies -/
theorem mkLegs (n : Nat) (h : n ≤ 2097152) (w : World) : (Instr.makeSlice 22 (.int .i64 (n : Int)) (.int .i64 (n : Int))).run Tryz.prog w =
    .ok (.slice (some ⟨w.heap.size, 0, none⟩) n n) (w.alloc (.cells (madeCells #[.int .i64 0, .int .i64 0, .int .i64 0, .int .i64 0, .int .i64 0] (n * 5)) 39)) := by
  obtain ⟨i0, hi, hz0, hz1, hz2⟩ := info_parts infoLeg
  have h := run_make (P := Tryz.prog) w 22 39 i0 _ Tryz.underlying22 hi hz0 .i64 .i64 n n (by omega) (Int.le_refl _) (by rw [hz2]; omega) (by omega)
  simpa [hz1, Value.cells] using h

theorem cell_some {α : Type} [Inhabited α] {K : Kind α} {T : TypeId} {w : World} {g cap : Nat} {F : Nat → Option α} (h : KRow K T w g cap F) {j : Nat} (hj : j < cap * K.sz) : ∃ u, w.cell? ⟨g, j, none⟩ = some u := Option.isSome_iff_exists.1 (h.has hj)

/-! ### equality of what is equal -/
theorem eqLeg_any (g : Lg) (w : World) :
    Calls Tryz.prog 67 #[g.val, g.val] w fun e w' => e = .returned (.bool true) ∧ Below w.heap.size w w' := by
  obtain ⟨x1, x2, x3, x4, x5⟩ := g
  show Calls Tryz.prog 67 #[.agg #[.int .i64 x1, .int .i64 x2, .int .i64 x3, .int .i64 x4, .int .i64 x5], .agg #[.int .i64 x1, .int .i64 x2, .int .i64 x3, .int .i64 x4, .int .i64 x5]] w _
  have e1 : (x1 != x1) = false := by simp
  have e2 : (x2 != x2) = false := by simp
  have e3 : (x3 != x3) = false := by simp
  have e4 : (x4 != x4) = false := by simp
  have e5 : (x5 != x5) = false := by simp
  go_enter Tryz.func67, Tryz.ntmps67
  go_wp2
  go_ret
  exact ⟨rfl, (by repeat (first | with_reducible assumption | exact Below.refl _ _ | refine below_drewN ?_ _ | refine Below.drew ?_ | refine Below.alloc ?_ (by first | omega | (simp; done) | (simp; omega)) _ | refine Below.setCell ?_ (by first | omega | (simp; done) | (simp; omega)) _))⟩
theorem eqLegS_any (a1 a2 : Option Addr) (c1 c2 : Nat) (l : List Lg) (w : World) (hl : l.length ≤ 1048580) (h1 : Legs w a1 l) (h2 : Legs w a2 l) :
    Calls Tryz.prog 49 #[.slice a1 l.length c1, .slice a2 l.length c2] w fun e w' => e = .returned (.bool true) ∧ Below w.heap.size w w' := by
  have hne : ((l.length : Int) != (l.length : Int)) = false := by simp
  go_enter Tryz.func49, Tryz.ntmps49
  go_wp2_with fail
  go_loopw [5] (fun i wr => ∃ k : Nat, k ≤ l.length ∧ i = .int .i64 k ∧ Below w.heap.size w wr) (fun i _ => l.length - (intOf i).toNat)
  case atStart => exact ⟨0, by omega, rfl, Below.refl _ _⟩
  case round =>
    obtain ⟨k, hk, rfl, hb⟩ := hrel
    have hz := hb.size
    by_cases hlt : k < l.length
    · obtain ⟨b, off, rfl, hbw, m0, m1, m2, m3, m4⟩ := Legs.at (h1.below hb) hlt
      obtain ⟨b', off', rfl, hbw', n0, n1, n2, n3, n4⟩ := Legs.at (h2.below hb) hlt
      clear h1 h2
      go_wp2_with fail
      have k0 := cell_regrown m0
      have k1 := cell_regrown m1
      have k2 := cell_regrown m2
      have k3 := cell_regrown m3
      have k4 := cell_regrown m4
      have q0 := cell_regrown n0
      have q1 := cell_regrown n1
      have q2 := cell_regrown n2
      have q3 := cell_regrown n3
      have q4 := cell_regrown n4
      have i1 := legs_grown (w := wr) (eqLeg_any (nth l k))
      simp only [Lg.val] at i1
      refine wp_region_quiet_below (by kernel_rfl) (by kernel_rfl) ?_
      repeat (quiet_step (first | with_reducible exact i1 _ _))
      refine wpQuiet_nil ?_
      intro _ hw'
      obtain ⟨⟨dq, osq⟩, hw''⟩ := hw'
      have hgr : Below wr.heap.size wr (grow (redrawn wr dq) osq) := below_regrown wr dq osq
      subst hw''
      generalize grow (redrawn wr dq) osq = W2 at hgr ⊢
      clear k0 k1 k2 k3 k4 q0 q1 q2 q3 q4 i1 m0 m1 m2 m3 m4 n0 n1 n2 n3 n4
      go_wp2_with fail
      go_roundw
      case rel => exact ⟨k + 1, by omega, by go_num, hb.trans (hgr.mono hz)⟩
      case measure => simp [intOf] <;> omega
    · go_wp2_with fail
      go_ret
      exact ⟨rfl, hb⟩
theorem eqSurvey_any (a1 a2 : Option Addr) (c1 c2 : Nat) (st : Int) (l : List Lg) (w : World) (hl : l.length ≤ 1048580) (h1 : Legs w a1 l) (h2 : Legs w a2 l) :
    Calls Tryz.prog 19 #[.agg #[.int .i64 st, .slice a1 l.length c1], .agg #[.int .i64 st, .slice a2 l.length c2]] w fun e w' => e = .returned (.bool true) ∧ Below w.heap.size w w' := by
  have hne : (st != st) = false := by simp
  go_enter Tryz.func19, Tryz.ntmps19
  go_wp2_with (go_at_call 49; refine (eqLegS_any _ _ _ _ l _ hl (h1.below (by repeat (first | with_reducible assumption | exact Below.refl _ _ | refine below_drewN ?_ _ | refine Below.drew ?_ | refine Below.alloc ?_ (by first | omega | (simp; done) | (simp; omega)) _ | refine Below.setCell ?_ (by first | omega | (simp; done) | (simp; omega)) _))) (h2.below (by repeat (first | with_reducible assumption | exact Below.refl _ _ | refine below_drewN ?_ _ | refine Below.drew ?_ | refine Below.alloc ?_ (by first | omega | (simp; done) | (simp; omega)) _ | refine Below.setCell ?_ (by first | omega | (simp; done) | (simp; omega)) _)))).mono ?_; rintro e w1 ⟨rfl, b1⟩)
  go_ret
  exact ⟨rfl, (by repeat (first | with_reducible assumption | with_reducible exact Below.refl _ _ | refine Below.setCell ?_ (by first | omega | (simp; done) | (simp; omega)) _ | refine Below.alloc ?_ (by first | omega | (simp; done) | (simp; omega)) _ | with_reducible exact Below.trans (Below.refl _ _) b1 | refine Below.trans ?_ (Below.mono b1 (by first | omega | (simp; done) | (simp; omega))) | refine below_drewN ?_ _ | refine Below.drew ?_))⟩
theorem eqBookDeed_any (d : Dd) (w : World) :
    Calls Tryz.prog 50 #[d.val, d.val] w fun e w' => e = .returned (.bool true) ∧ Below w.heap.size w w' := by
  obtain ⟨kd, ix, ⟨x1, x2, x3, x4, x5⟩⟩ := d
  show Calls Tryz.prog 50 #[.agg #[.int .i64 kd, .int .i64 ix, .int .i64 x1, .int .i64 x2, .int .i64 x3, .int .i64 x4, .int .i64 x5], .agg #[.int .i64 kd, .int .i64 ix, .int .i64 x1, .int .i64 x2, .int .i64 x3, .int .i64 x4, .int .i64 x5]] w _
  have e1 : (kd != kd) = false := by simp
  have e2 : (ix != ix) = false := by simp
  have i1 := eqLeg_any ⟨x1, x2, x3, x4, x5⟩
  simp only [Lg.val] at i1
  go_enter Tryz.func50, Tryz.ntmps50
  go_wp2_with (go_at_call 67; refine (i1 _).mono ?_; rintro e w1 ⟨rfl, b1⟩)
  go_ret
  exact ⟨rfl, (by repeat (first | with_reducible assumption | with_reducible exact Below.refl _ _ | refine Below.setCell ?_ (by first | omega | (simp; done) | (simp; omega)) _ | refine Below.alloc ?_ (by first | omega | (simp; done) | (simp; omega)) _ | with_reducible exact Below.trans (Below.refl _ _) b1 | refine Below.trans ?_ (Below.mono b1 (by first | omega | (simp; done) | (simp; omega))) | refine below_drewN ?_ _ | refine Below.drew ?_))⟩
/-! ### marks -/
def mark1 (k : Int) : Lg := ⟨k, k + 1, k + 1 + 1, k + 1 + 1 + 1, k + 1 + 1 + 1 + 1⟩
def marks (k : Int) : Nat → List Lg
  | 0 => []
  | n + 1 => mark1 k :: marks (k + 5) n
theorem marks_len : ∀ (n : Nat) (k : Int), (marks k n).length = n
  | 0, _ => rfl
  | n + 1, k => by simp [marks, marks_len n]
theorem marks_nth : ∀ (n : Nat) (k : Int) (j : Nat), j < n → nth (marks k n) j = mark1 (k + 5 * j)
  | 0, _, j, h => by omega
  | n + 1, k, 0, _ => by simp [marks, nth]
  | n + 1, k, j + 1, h => by
    show nth (marks (k + 5) n) j = _
    rw [marks_nth n (k + 5) j (by omega)]
    congr 1; omega

theorem markLegS_any (B : Nat) (a : Option Addr) (c : Nat) (l : List Lg) (k : Int) (w : World) (hl : l.length ≤ 1048580) (hk0 : 0 ≤ k) (hk : k ≤ 100000000) (ho : OwnL w B (.slice a l.length c) l) :
    Calls Tryz.prog 51 #[.slice a l.length c, .int .i64 k] w fun e w' => e = .returned (.int .i64 (k + 5 * (l.length : Int))) ∧ OwnL w' B (.slice a l.length c) (marks k l.length) ∧ w.grownBy w' (Value.slice a 0 0).ownBlock := by
  by_cases h0 : 0 < l.length
  · obtain ⟨g, cap, e, hBg, hn, hm, hr⟩ := ho.krow h0
    cases e
    clear ho
    go_enter Tryz.func51, Tryz.ntmps51
    go_wp2_with fail
    go_loopw [1, 5] (fun t i wr => ∃ j : Nat, j ≤ l.length ∧ i = .int .i64 j ∧ t = .int .i64 (k + 5 * (j : Int)) ∧ KRow legK 39 wr g c (fun q => if q < j then some (mark1 (k + 5 * q)) else none) ∧ w.grownBy wr (some g)) (fun _ i _ => l.length - (intOf i).toNat)
    case atStart => exact ⟨0, by omega, rfl, by simp, hr.congr (fun q _ x hx => by simp at hx), World.grownBy.refl w _⟩
    case round =>
      obtain ⟨j, hj, rfl, rfl, hr, hg⟩ := hrel
      by_cases hlt : j < l.length
      · obtain ⟨u0, t0⟩ := cell_some hr (j := j * 5) (by show _ < c * 5; omega)
        obtain ⟨u1, t1⟩ := cell_some hr (j := j * 5 + 1) (by show _ < c * 5; omega)
        obtain ⟨u2, t2⟩ := cell_some hr (j := j * 5 + 2) (by show _ < c * 5; omega)
        obtain ⟨u3, t3⟩ := cell_some hr (j := j * 5 + 3) (by show _ < c * 5; omega)
        obtain ⟨u4, t4⟩ := cell_some hr (j := j * 5 + 4) (by show _ < c * 5; omega)
        have hfz := hr.free
        obtain ⟨m, hm⟩ : ∃ m, m = k + 5 * (j : Int) := ⟨_, rfl⟩
        rw [← hm]
        have HM := Lib.hid hm
        have hm1 : 0 ≤ m := by omega
        have hm2 : m ≤ 200000000 := by omega
        have hput := hr.put j [mark1 m]
        clear hm hr
        go_wp2_with fail
        go_roundw
        case rel =>
          refine ⟨j + 1, by omega, by go_num, by rw [HM.out]; congr 1; omega, ?_, ?_⟩
          · refine KRow.congr (show KRow legK 39 (wr.setCells g (j * legK.sz) (legK.flat [mark1 m])) g c _ from hput) fun q hq x hx => ?_
            simp only [List.length_cons, List.length_nil]
            by_cases e : q = j
            · subst e; rw [if_pos (by omega)] at hx; rw [if_pos (by omega), ← hx, ← HM.out]; simp [nth]
            · by_cases e2 : q < j
              · rw [if_pos (by omega)] at hx; rw [if_neg (by omega), if_pos e2, ← hx]
              · rw [if_neg (by omega)] at hx; cases hx
          · exact grown_setCells hg (j * 5) [_, _, _, _, _]
        case measure => simp [intOf] <;> omega
      · have e : j = l.length := by omega
        subst e
        go_wp2_with fail
        go_ret
        refine ⟨rfl, ?_, hg⟩
        have := hr.own hBg (marks k l.length) (by rw [marks_len]; exact hn) hm (fun q hq => by rw [marks_len] at hq; rw [if_pos hq, marks_nth _ _ _ hq])
        rw [marks_len] at this
        exact this
  · have e : l = [] := List.eq_nil_of_length_eq_zero (by omega)
    subst e
    go_enter Tryz.func51, Tryz.ntmps51
    go_wp2_with fail
    go_loopw [1, 5] (fun t i wr => i = .int .i64 ((0 : Nat) : Int) ∧ t = .int .i64 k ∧ wr = w) (fun _ _ _ => 0)
    case atStart => exact ⟨rfl, rfl, rfl⟩
    case round =>
      obtain ⟨rfl, rfl, rfl⟩ := hrel
      go_wp2_with fail
      go_ret
      exact ⟨by simp, ho, World.grownBy.refl _ _⟩
end Go.Proofs.YtgggbapcpjfljaaGreatDoor
