/- Walks: the laws' helpers on lists of deeds: size, copy, equality, marks, and that marks are held. -/
import Derived.Test.YtgggbapcpjfljaaGreatDoorG17
import Derived.Test.YtgggbapcpjfljaaGreatDoorEx
namespace Go.Proofs.YtgggbapcpjfljaaGreatDoor
open Go Go.RowKit Go.Sort

abbrev OwnD (w : World) (B : Nat) (v : Value) (l : List Dd) : Prop := KOwn ddK 41 w B v l
theorem infoDd : (Tryz.prog.info? 41).map (fun i => (i.zero, i.size, i.bytes)) = some (some (.agg #[.int .i64 0, .int .i64 0, .int .i64 0, .int .i64 0, .int .i64 0, .int .i64 0, .int .i64 0]), 7, 56) := by kernel_rfl
theorem ddI : KInfo Tryz.prog ddK 41 25 := by
  obtain ⟨i0, hi, hz0, hz1, hz2⟩ := info_parts infoDd
  exact ⟨Tryz.underlying25, ⟨i0, _, 56, hi, hz0, hz1, hz2, rfl, by omega⟩, by decide⟩

theorem mkDds (n : Nat) (h : n ≤ 2097152) (w : World) : (Instr.makeSlice 25 (.int .i64 (n : Int)) (.int .i64 (n : Int))).run Tryz.prog w =
    .ok (.slice (some ⟨w.heap.size, 0, none⟩) n n) (w.alloc (.cells (madeCells #[.int .i64 0, .int .i64 0, .int .i64 0, .int .i64 0, .int .i64 0, .int .i64 0, .int .i64 0] (n * 7)) 41)) := by
  obtain ⟨i0, hi, hz0, hz1, hz2⟩ := info_parts infoDd
  have h := run_make (P := Tryz.prog) w 25 41 i0 _ Tryz.underlying25 hi hz0 .i64 .i64 n n (by omega) (Int.le_refl _) (by rw [hz2]; omega) (by omega)
  simpa [hz1, Value.cells] using h

set_option maxHeartbeats 1000000 in
theorem eqDds_any (a1 a2 : Option Addr) (c1 c2 : Nat) (l : List Dd) (w : World) (hl : l.length ≤ 1048580) (h1 : Dds w a1 l) (h2 : Dds w a2 l) :
    Calls Tryz.prog 20 #[.slice a1 l.length c1, .slice a2 l.length c2] w fun e w' => e = .returned (.bool true) ∧ Below w.heap.size w w' := by
  have hne : ((l.length : Int) != (l.length : Int)) = false := by simp
  go_enter Tryz.func20, Tryz.ntmps20
  go_wp2_with fail
  go_loopw [5] (fun i wr => ∃ k : Nat, k ≤ l.length ∧ i = .int .i64 k ∧ Below w.heap.size w wr) (fun i _ => l.length - (intOf i).toNat)
  case atStart => exact ⟨0, by omega, rfl, Below.refl _ _⟩
  case round =>
    obtain ⟨k, hk, rfl, hb⟩ := hrel
    have hz := hb.size
    by_cases hlt : k < l.length
    · obtain ⟨b, off, rfl, hbw, m0, m1, m2, m3, m4, m5, m6⟩ := Dds.at (h1.below hb) hlt
      obtain ⟨b', off', rfl, hbw', n0, n1, n2, n3, n4, n5, n6⟩ := Dds.at (h2.below hb) hlt
      clear h1 h2
      go_wp2_with fail
      have k0 := cell_regrown m0
      have q0 := cell_regrown n0
      have k1 := cell_regrown m1
      have q1 := cell_regrown n1
      have k2 := cell_regrown m2
      have q2 := cell_regrown n2
      have k3 := cell_regrown m3
      have q3 := cell_regrown n3
      have k4 := cell_regrown m4
      have q4 := cell_regrown n4
      have k5 := cell_regrown m5
      have q5 := cell_regrown n5
      have k6 := cell_regrown m6
      have q6 := cell_regrown n6
      have i1 := legs_grown (w := wr) (eqBookDeed_any (nth l k))
      simp only [Dd.val] at i1
      refine wp_region_quiet_below (by kernel_rfl) (by kernel_rfl) ?_
      repeat (quiet_step (first | with_reducible exact i1 _ _))
      refine wpQuiet_nil ?_
      intro _ hw'
      obtain ⟨⟨dq, osq⟩, hw''⟩ := hw'
      have hgr : Below wr.heap.size wr (grow (redrawn wr dq) osq) := below_regrown wr dq osq
      subst hw''
      generalize grow (redrawn wr dq) osq = W2 at hgr ⊢
      clear k0 q0 k1 q1 k2 q2 k3 q3 k4 q4 k5 q5 k6 q6 i1 m0 m1 m2 m3 m4 m5 m6 n0 n1 n2 n3 n4 n5 n6
      go_wp2_with fail
      go_roundw
      case rel => exact ⟨k + 1, by omega, by go_num, hb.trans (hgr.mono hz)⟩
      case measure => simp [intOf] <;> omega
    · go_wp2_with fail
      go_ret
      exact ⟨rfl, hb⟩
/-! ### marks -/
def markD1 (k : Int) : Dd := ⟨k, k + 1, ⟨k + 1 + 1, k + 1 + 1 + 1, k + 1 + 1 + 1 + 1, k + 1 + 1 + 1 + 1 + 1, k + 1 + 1 + 1 + 1 + 1 + 1⟩⟩
def marksD (k : Int) : Nat → List Dd
  | 0 => []
  | n + 1 => markD1 k :: marksD (k + 7) n
theorem marksD_len : ∀ (n : Nat) (k : Int), (marksD k n).length = n
  | 0, _ => rfl
  | n + 1, k => by simp [marksD, marksD_len n]
theorem marksD_nth : ∀ (n : Nat) (k : Int) (j : Nat), j < n → nth (marksD k n) j = markD1 (k + 7 * j)
  | 0, _, j, h => by omega
  | n + 1, k, 0, _ => by simp [marksD, nth]
  | n + 1, k, j + 1, h => by
    show nth (marksD (k + 7) n) j = _
    rw [marksD_nth n (k + 7) j (by omega)]
    congr 1; omega

set_option maxHeartbeats 2000000 in
theorem markDds_any (B : Nat) (a : Option Addr) (c : Nat) (l : List Dd) (k : Int) (w : World) (hl : l.length ≤ 1048580) (hk0 : 0 ≤ k) (hk : k ≤ 100000000) (ho : OwnD w B (.slice a l.length c) l) :
    Calls Tryz.prog 22 #[.slice a l.length c, .int .i64 k] w fun e w' => e = .returned (.int .i64 (k + 7 * (l.length : Int))) ∧ OwnD w' B (.slice a l.length c) (marksD k l.length) ∧ w.grownBy w' (Value.slice a 0 0).ownBlock := by
  by_cases h0 : 0 < l.length
  · obtain ⟨g, cap, e, hBg, hn, hm, hr⟩ := ho.krow h0
    cases e
    clear ho
    go_enter Tryz.func22, Tryz.ntmps22
    go_wp2_with fail
    go_loopw [1, 5] (fun t i wr => ∃ j : Nat, j ≤ l.length ∧ i = .int .i64 j ∧ t = .int .i64 (k + 7 * (j : Int)) ∧ KRow ddK 41 wr g c (fun q => if q < j then some (markD1 (k + 7 * q)) else none) ∧ w.grownBy wr (some g)) (fun _ i _ => l.length - (intOf i).toNat)
    case atStart => exact ⟨0, by omega, rfl, by simp, hr.congr (fun q _ x hx => by simp at hx), World.grownBy.refl w _⟩
    case round =>
      obtain ⟨j, hj, rfl, rfl, hr, hg⟩ := hrel
      by_cases hlt : j < l.length
      · skip
        obtain ⟨u0, t0⟩ := cell_some hr (j := j * 7) (by show _ < c * 7; omega)
        obtain ⟨u1, t1⟩ := cell_some hr (j := j * 7 + 1) (by show _ < c * 7; omega)
        obtain ⟨u2, t2⟩ := cell_some hr (j := j * 7 + 2) (by show _ < c * 7; omega)
        obtain ⟨u3, t3⟩ := cell_some hr (j := j * 7 + 3) (by show _ < c * 7; omega)
        obtain ⟨u4, t4⟩ := cell_some hr (j := j * 7 + 4) (by show _ < c * 7; omega)
        obtain ⟨u5, t5⟩ := cell_some hr (j := j * 7 + 5) (by show _ < c * 7; omega)
        obtain ⟨u6, t6⟩ := cell_some hr (j := j * 7 + 6) (by show _ < c * 7; omega)
        have hfz := hr.free
        obtain ⟨m, hm⟩ : ∃ m, m = k + 7 * (j : Int) := ⟨_, rfl⟩
        rw [← hm]
        have HM := Lib.hid hm
        have hm1 : 0 ≤ m := by omega
        have hm2 : m ≤ 200000000 := by omega
        have hput := hr.put j [markD1 m]
        clear hm hr
        go_wp2_with fail
        go_roundw
        case rel =>
          refine ⟨j + 1, by omega, by go_num, by rw [HM.out]; congr 1; omega, ?_, ?_⟩
          · refine KRow.congr (show KRow ddK 41 (wr.setCells g (j * ddK.sz) (ddK.flat [markD1 m])) g c _ from hput) fun q hq x hx => ?_
            simp only [List.length_cons, List.length_nil]
            by_cases e : q = j
            · subst e; rw [if_pos (by omega)] at hx; rw [if_pos (by omega), ← hx, ← HM.out]; simp [nth]
            · by_cases e2 : q < j
              · rw [if_pos (by omega)] at hx; rw [if_neg (by omega), if_pos e2, ← hx]
              · rw [if_neg (by omega)] at hx; cases hx
          · exact grown_setCells hg (j * 7) [_, _, _, _, _, _, _]
        case measure => simp [intOf] <;> omega
      · have e : j = l.length := by omega
        subst e
        go_wp2_with fail
        go_ret
        refine ⟨rfl, ?_, hg⟩
        have := hr.own hBg (marksD k l.length) (by rw [marksD_len]; exact hn) hm (fun q hq => by rw [marksD_len] at hq; rw [if_pos hq, marksD_nth _ _ _ hq])
        rw [marksD_len] at this
        exact this
  · have e : l = [] := List.eq_nil_of_length_eq_zero (by omega)
    subst e
    go_enter Tryz.func22, Tryz.ntmps22
    go_wp2_with fail
    go_loopw [1, 5] (fun t i wr => i = .int .i64 ((0 : Nat) : Int) ∧ t = .int .i64 k ∧ wr = w) (fun _ _ _ => 0)
    case atStart => exact ⟨rfl, rfl, rfl⟩
    case round =>
      obtain ⟨rfl, rfl, rfl⟩ := hrel
      go_wp2_with fail
      go_ret
      exact ⟨by simp, ho, World.grownBy.refl _ _⟩

set_option maxHeartbeats 2000000 in
theorem heldDds_any (a : Option Addr) (c n : Nat) (k : Int) (w : World) (hl : n ≤ 1048580) (hk0 : 0 ≤ k) (hk : k ≤ 100000000) (hs : Dds w a (marksD k n)) :
    Calls Tryz.prog 24 #[.slice a n c, .int .i64 k] w fun e w' => e = .returned (.int .i64 (k + 7 * (n : Int))) ∧ w = w' := by
  go_enter Tryz.func24, Tryz.ntmps24
  go_wp2_with fail
  go_loopw [1, 5] (fun t i wr => ∃ j : Nat, j ≤ n ∧ i = .int .i64 j ∧ t = .int .i64 (k + 7 * (j : Int)) ∧ w = wr) (fun _ i _ => n - (intOf i).toNat)
  case atStart => exact ⟨0, by omega, rfl, by simp, rfl⟩
  case round =>
    obtain ⟨j, hj, rfl, rfl, rfl⟩ := hrel
    by_cases hlt : j < n
    · obtain ⟨b, off, rfl, hb, m0, m1, m2, m3, m4, m5, m6⟩ := Dds.at hs (k := j) (by rw [marksD_len]; exact hlt)
      rw [marksD_nth _ _ _ hlt] at m0 m1 m2 m3 m4 m5 m6
      simp only [markD1] at m0 m1 m2 m3 m4 m5 m6
      clear hs
      obtain ⟨m, hm⟩ : ∃ m, m = k + 7 * (j : Int) := ⟨_, rfl⟩
      rw [← hm] at m0 m1 m2 m3 m4 m5 m6 ⊢
      have HM := Lib.hid hm
      have hm1 : 0 ≤ m := by omega
      have hm2 : m ≤ 200000000 := by omega
      clear hm
      go_wp2_with fail
      go_roundw
      case rel => exact ⟨j + 1, by omega, by go_num, by rw [HM.out]; congr 1; omega, by trivial⟩
      case measure => simp [intOf] <;> omega
    · have e : j = n := by omega
      subst e
      go_wp2_with fail
      go_ret
      exact ⟨rfl, rfl⟩
end Go.Proofs.YtgggbapcpjfljaaGreatDoor
