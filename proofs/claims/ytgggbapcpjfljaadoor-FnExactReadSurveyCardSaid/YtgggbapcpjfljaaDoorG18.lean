/- Walks: the laws' helpers on lists of deeds: size, copy, equality, marks, and that marks are held. -/
import Derived.Test.YtgggbapcpjfljaaDoorG17
import Derived.Test.YtgggbapcpjfljaaDoorEx
namespace Go.Proofs.YtgggbapcpjfljaaDoor
open Go Go.RowKit Go.Sort

abbrev OwnD (w : World) (B : Nat) (v : Value) (l : List Dd) : Prop := KOwn ddK 29 w B v l
theorem infoDd : (Tryd.prog.info? 29).map (fun i => (i.zero, i.size, i.bytes)) = some (some (.agg #[.int .i64 0, .int .i64 0, .int .i64 0, .int .i64 0, .int .i64 0, .int .i64 0, .int .i64 0]), 7, 56) := by kernel_rfl
theorem ddI : KInfo Tryd.prog ddK 29 48 := by
  obtain ⟨i0, hi, hz0, hz1, hz2⟩ := info_parts infoDd
  exact ⟨Tryd.underlying48, ⟨i0, _, 56, hi, hz0, hz1, hz2, rfl, by omega⟩, by decide⟩

theorem szDds_any (a : Option Addr) (n c : Nat) (left : Int) (w : World) (hn : n ≤ 9223372036854775807) (h0 : 0 ≤ left) (h1 : left ≤ 1048576) :
    Calls Tryd.prog 43 #[.slice a n c, .int .i64 left] w fun e w' => e = .returned (.int .i64 (szL n left)) ∧ w = w' := by
  by_cases h : left - n < 0
  · go_enter Tryd.func43, Tryd.ntmps43
    go_wp2
    go_ret
    exact ⟨by simp [szL, h], rfl⟩
  · go_enter Tryd.func43, Tryd.ntmps43
    go_wp2
    go_ret
    exact ⟨by simp only [szL]; rw [if_neg (by omega)]; rfl, rfl⟩

theorem mkDds (n : Nat) (h : n ≤ 2097152) (w : World) : (Instr.makeSlice 48 (.int .i64 (n : Int)) (.int .i64 (n : Int))).run Tryd.prog w =
    .ok (.slice (some ⟨w.heap.size, 0, none⟩) n n) (w.alloc (.cells (madeCells #[.int .i64 0, .int .i64 0, .int .i64 0, .int .i64 0, .int .i64 0, .int .i64 0, .int .i64 0] (n * 7)) 29)) := by
  obtain ⟨i0, hi, hz0, hz1, hz2⟩ := info_parts infoDd
  have h := run_make (P := Tryd.prog) w 48 29 i0 _ Tryd.underlying48 hi hz0 .i64 .i64 n n (by omega) (Int.le_refl _) (by rw [hz2]; omega) (by omega)
  simpa [hz1, Value.cells] using h

set_option maxHeartbeats 1000000 in
theorem toDds_any (a : Option Addr) (c : Nat) (l : List Dd) (w : World) (hl : l.length ≤ 1048576) (hs : Dds w a l) :
    Calls Tryd.prog 45 #[.slice a l.length c] w fun e w' => e = .returned (.slice (some ⟨w.heap.size, 0, none⟩) l.length l.length) ∧ OwnD w' w.heap.size (.slice (some ⟨w.heap.size, 0, none⟩) l.length l.length) l ∧ Below w.heap.size w w' := by
  have hmk := mkDds l.length (by omega)
  go_enter Tryd.func45, Tryd.ntmps45
  go_wp2_with fail
  clear hmk
  go_loopw [4] (fun i wr => ∃ k : Nat, k ≤ l.length ∧ i = .int .i64 k ∧ KRow ddK 29 wr w.heap.size l.length (fun j => if j < k then some (nth l j) else none) ∧ Below w.heap.size w wr) (fun i _ => l.length - (intOf i).toNat)
  case atStart => exact ⟨0, by omega, rfl, KRow.new w _ (by rw [size_madeCells]; rfl) (fun k x hk hx => by simp at hx), (by repeat (first | with_reducible assumption | exact Below.refl _ _ | refine below_drewN ?_ _ | refine Below.drew ?_ | refine Below.alloc ?_ (by first | omega | (simp; done) | (simp; omega)) _ | refine Below.setCell ?_ (by first | omega | (simp; done) | (simp; omega)) _))⟩
  case round =>
    obtain ⟨k, hk, rfl, hr, hb⟩ := hrel
    have hz := hb.size
    by_cases hlt : k < l.length
    · obtain ⟨b, off, rfl, hbw, m0, m1, m2, m3, m4, m5, m6⟩ := Dds.at (hs.below hb) hlt
      clear hs
      have hG := hr.lt
      go_wp2_with fail
      refine (toBookDeed_any (nth l k) _).mono ?_
      rintro e w1 ⟨rfl, b1⟩
      have hr1 := hr.below b1
      obtain ⟨u0, t0⟩ := cell_some hr1 (j := k * 7) (by show _ < l.length * 7; omega)
      obtain ⟨u1, t1⟩ := cell_some hr1 (j := k * 7 + 1) (by show _ < l.length * 7; omega)
      obtain ⟨u2, t2⟩ := cell_some hr1 (j := k * 7 + 2) (by show _ < l.length * 7; omega)
      obtain ⟨u3, t3⟩ := cell_some hr1 (j := k * 7 + 3) (by show _ < l.length * 7; omega)
      obtain ⟨u4, t4⟩ := cell_some hr1 (j := k * 7 + 4) (by show _ < l.length * 7; omega)
      obtain ⟨u5, t5⟩ := cell_some hr1 (j := k * 7 + 5) (by show _ < l.length * 7; omega)
      obtain ⟨u6, t6⟩ := cell_some hr1 (j := k * 7 + 6) (by show _ < l.length * 7; omega)
      have hfz := hr1.free
      have hput := hr1.put k [nth l k]
      have hb2 := hb.trans (b1.mono hz)
      clear m0 m1 m2 m3 m4 m5 m6 hr b1
      simp only [Dd.val]
      go_wp2_with fail
      go_roundw
      case rel =>
        refine ⟨k + 1, by omega, by go_num, ?_, ?_⟩
        · refine KRow.congr (show KRow ddK 29 (w1.setCells w.heap.size (k * ddK.sz) (ddK.flat [nth l k])) w.heap.size l.length _ from hput) fun j hj x hx => ?_
          simp only [List.length_cons, List.length_nil]
          by_cases e : j = k
          · subst e; rw [if_pos (by omega)] at hx; rw [if_pos (by omega), ← hx]; simp [nth]
          · by_cases e2 : j < k
            · rw [if_pos (by omega)] at hx; rw [if_neg (by omega), if_pos e2, ← hx]
            · rw [if_neg (by omega)] at hx; cases hx
        · exact below_setCells w.heap.size (Nat.le_refl _) [_, _, _, _, _, _, _] (k * 7) _ hb2
      case measure => simp [intOf] <;> omega
    · go_wp2_with fail
      go_ret
      refine ⟨rfl, hr.own (Nat.le_refl _) l (Nat.le_refl _) (by unfold maxLen; omega) (fun j hj => by rw [if_pos (by omega)]), hb⟩

set_option maxHeartbeats 1000000 in
theorem eqDds_any (a1 a2 : Option Addr) (c1 c2 : Nat) (l : List Dd) (w : World) (hl : l.length ≤ 1048580) (h1 : Dds w a1 l) (h2 : Dds w a2 l) :
    Calls Tryd.prog 47 #[.slice a1 l.length c1, .slice a2 l.length c2] w fun e w' => e = .returned (.bool true) ∧ Below w.heap.size w w' := by
  have hne : ((l.length : Int) != (l.length : Int)) = false := by simp
  go_enter Tryd.func47, Tryd.ntmps47
  go_wp2_with fail
  go_loopw [5] (fun i wr => ∃ k : Nat, k ≤ l.length ∧ i = .int .i64 k ∧ Below w.heap.size w wr) (fun i _ => l.length - (intOf i).toNat)
  case atStart => exact ⟨0, by omega, rfl, Below.refl _ _⟩
  case round =>
    obtain ⟨k, hk, rfl, hb⟩ := hrel
    have hz := hb.size
    by_cases hlt : k < l.length
    · obtain ⟨b, off, rfl, hbw, m0, m1, m2, m3, m4, m5, m6⟩ := Dds.at (h1.below hb) hlt
      obtain ⟨b', off', rfl, hbw', n0, n1, n2, n3, n4, n5, n6⟩ := Dds.at (h2.below hb) hlt
      clear h1 h2
      go_wp2_with fail
      have k0 := cell_regrown m0
      have q0 := cell_regrown n0
      have k1 := cell_regrown m1
      have q1 := cell_regrown n1
      have k2 := cell_regrown m2
      have q2 := cell_regrown n2
      have k3 := cell_regrown m3
      have q3 := cell_regrown n3
      have k4 := cell_regrown m4
      have q4 := cell_regrown n4
      have k5 := cell_regrown m5
      have q5 := cell_regrown n5
      have k6 := cell_regrown m6
      have q6 := cell_regrown n6
      have i1 := legs_grown (w := wr) (eqBookDeed_any (nth l k))
      simp only [Dd.val] at i1
      refine wp_region_quiet_below (by kernel_rfl) (by kernel_rfl) ?_
      repeat (quiet_step (first | with_reducible exact i1 _ _))
      refine wpQuiet_nil ?_
      intro _ hw'
      obtain ⟨⟨dq, osq⟩, hw''⟩ := hw'
      have hgr : Below wr.heap.size wr (grow (redrawn wr dq) osq) := below_regrown wr dq osq
      subst hw''
      generalize grow (redrawn wr dq) osq = W2 at hgr ⊢
      clear k0 q0 k1 q1 k2 q2 k3 q3 k4 q4 k5 q5 k6 q6 i1 m0 m1 m2 m3 m4 m5 m6 n0 n1 n2 n3 n4 n5 n6
      go_wp2_with fail
      go_roundw
      case rel => exact ⟨k + 1, by omega, by go_num, hb.trans (hgr.mono hz)⟩
      case measure => simp [intOf] <;> omega
    · go_wp2_with fail
      go_ret
      exact ⟨rfl, hb⟩

/-! ### marks -/
def markD1 (k : Int) : Dd := ⟨k, k + 1, ⟨k + 1 + 1, k + 1 + 1 + 1, k + 1 + 1 + 1 + 1, k + 1 + 1 + 1 + 1 + 1, k + 1 + 1 + 1 + 1 + 1 + 1⟩⟩
def marksD (k : Int) : Nat → List Dd
  | 0 => []
  | n + 1 => markD1 k :: marksD (k + 7) n
theorem marksD_len : ∀ (n : Nat) (k : Int), (marksD k n).length = n
  | 0, _ => rfl
  | n + 1, k => by simp [marksD, marksD_len n]
theorem marksD_nth : ∀ (n : Nat) (k : Int) (j : Nat), j < n → nth (marksD k n) j = markD1 (k + 7 * j)
  | 0, _, j, h => by omega
  | n + 1, k, 0, _ => by simp [marksD, nth]
  | n + 1, k, j + 1, h => by
    show nth (marksD (k + 7) n) j = _
    rw [marksD_nth n (k + 7) j (by omega)]
    congr 1; omega

end Go.Proofs.YtgggbapcpjfljaaDoor
