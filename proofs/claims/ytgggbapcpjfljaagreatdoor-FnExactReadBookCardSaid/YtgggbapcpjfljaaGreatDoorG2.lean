/- Walks: legs and surveys are valid, in the reference's words. -/
import Derived.Test.YtgggbapcpjfljaaGreatDoorG1
namespace Go.Proofs.YtgggbapcpjfljaaGreatDoor
open Go Go.RowKit Go.Sort

def inB (n lo hi : Int) : Bool := decide (lo ≤ n) && decide (n ≤ hi)
theorem l1In_any (n lo hi : Int) (w : World) :
    Calls Tryz.prog 32 #[.int .i64 n, .int .i64 lo, .int .i64 hi] w fun e w' => e = .returned (.bool (inB n lo hi)) ∧ w = w' := by
  by_cases h : lo ≤ n
  · go_enter Tryz.func32, Tryz.ntmps32
    go_wp2
    go_ret
    exact ⟨by simp [inB, h], rfl⟩
  · have h' : decide (lo ≤ n) = false := by simpa using h
    have H := Lib.hid h'
    clear h'
    go_enter Tryz.func32, Tryz.ntmps32
    go_wp2
    go_ret
    exact ⟨by simp only [inB, H.out]; rfl, rfl⟩

theorem legOk_in (n : Int) (x1 x2 x3 x4 x5 : Int) : legOk n ⟨x1, x2, x3, x4, x5⟩ = (inB n 1 6 && inB x1 0 (n - 1) && inB x2 0 (n - 1) && !decide (x1 = x2) && inB x3 (-99) 99 && inB x4 (-99) 99 && inB x5 (-99) 99) := by
  rw [Bool.eq_iff_iff]
  simp only [legOk, inB, isIdx, isIn, Bool.and_eq_true, Bool.not_eq_true', Bool.or_eq_false_iff, decide_eq_false_iff_not, decide_eq_true_eq]
  omega

theorem slegValid_any (n : Int) (g : Lg) (w : World) :
    Calls Tryz.prog 56 #[.int .i64 n, g.val] w fun e w' => e = .returned (.bool (legOk n g)) ∧ Below w.heap.size w w' := by
  obtain ⟨x1, x2, x3, x4, x5⟩ := g
  show Calls Tryz.prog 56 #[.int .i64 n, .agg #[.int .i64 x1, .int .i64 x2, .int .i64 x3, .int .i64 x4, .int .i64 x5]] w _
  have HL := Lib.hid (legOk_in n x1 x2 x3 x4 x5)
  cases h1 : inB n 1 6
  · go_enter Tryz.func56, Tryz.ntmps56
    go_wp2_with (go_at_call 32; refine (l1In_any _ _ _ _).mono ?_; rintro e w' ⟨rfl, rfl⟩)
    go_ret
    exact ⟨by rw [HL.out]; simp [h1], (by repeat (first | with_reducible assumption | exact Below.refl _ _ | refine below_drewN ?_ _ | refine Below.drew ?_ | refine Below.alloc ?_ (by first | omega | (simp; done) | (simp; omega)) _ | refine Below.setCell ?_ (by first | omega | (simp; done) | (simp; omega)) _))⟩
  have hn : 1 ≤ n ∧ n ≤ 6 := by simpa [inB] using h1
  obtain ⟨hn1, hn2⟩ := hn
  cases h3 : inB x1 0 (n - 1)
  · go_enter Tryz.func56, Tryz.ntmps56
    go_wp2_with (go_at_call 32; refine (l1In_any _ _ _ _).mono ?_; rintro e w' ⟨rfl, rfl⟩)
    go_ret
    exact ⟨by rw [HL.out]; simp [h3], (by repeat (first | with_reducible assumption | exact Below.refl _ _ | refine below_drewN ?_ _ | refine Below.drew ?_ | refine Below.alloc ?_ (by first | omega | (simp; done) | (simp; omega)) _ | refine Below.setCell ?_ (by first | omega | (simp; done) | (simp; omega)) _))⟩
  cases h4 : inB x2 0 (n - 1)
  · go_enter Tryz.func56, Tryz.ntmps56
    go_wp2_with (go_at_call 32; refine (l1In_any _ _ _ _).mono ?_; rintro e w' ⟨rfl, rfl⟩)
    go_ret
    exact ⟨by rw [HL.out]; simp [h4], (by repeat (first | with_reducible assumption | exact Below.refl _ _ | refine below_drewN ?_ _ | refine Below.drew ?_ | refine Below.alloc ?_ (by first | omega | (simp; done) | (simp; omega)) _ | refine Below.setCell ?_ (by first | omega | (simp; done) | (simp; omega)) _))⟩
  by_cases h5 : x1 = x2
  · subst h5
    go_enter Tryz.func56, Tryz.ntmps56
    go_wp2_with (go_at_call 32; refine (l1In_any _ _ _ _).mono ?_; rintro e w' ⟨rfl, rfl⟩)
    go_ret
    exact ⟨by rw [HL.out]; simp, (by repeat (first | with_reducible assumption | exact Below.refl _ _ | refine below_drewN ?_ _ | refine Below.drew ?_ | refine Below.alloc ?_ (by first | omega | (simp; done) | (simp; omega)) _ | refine Below.setCell ?_ (by first | omega | (simp; done) | (simp; omega)) _))⟩
  cases h6 : inB x3 (-99) 99
  · go_enter Tryz.func56, Tryz.ntmps56
    go_wp2_with (go_at_call 32; refine (l1In_any _ _ _ _).mono ?_; rintro e w' ⟨rfl, rfl⟩)
    go_ret
    exact ⟨by rw [HL.out]; simp [h6], (by repeat (first | with_reducible assumption | exact Below.refl _ _ | refine below_drewN ?_ _ | refine Below.drew ?_ | refine Below.alloc ?_ (by first | omega | (simp; done) | (simp; omega)) _ | refine Below.setCell ?_ (by first | omega | (simp; done) | (simp; omega)) _))⟩
  cases h7 : inB x4 (-99) 99
  · go_enter Tryz.func56, Tryz.ntmps56
    go_wp2_with (go_at_call 32; refine (l1In_any _ _ _ _).mono ?_; rintro e w' ⟨rfl, rfl⟩)
    go_ret
    exact ⟨by rw [HL.out]; simp [h7], (by repeat (first | with_reducible assumption | exact Below.refl _ _ | refine below_drewN ?_ _ | refine Below.drew ?_ | refine Below.alloc ?_ (by first | omega | (simp; done) | (simp; omega)) _ | refine Below.setCell ?_ (by first | omega | (simp; done) | (simp; omega)) _))⟩
  · go_enter Tryz.func56, Tryz.ntmps56
    go_wp2_with (go_at_call 32; refine (l1In_any _ _ _ _).mono ?_; rintro e w' ⟨rfl, rfl⟩)
    go_ret
    exact ⟨by rw [HL.out]; simp [h1, h3, h4, h5, h6, h7], (by repeat (first | with_reducible assumption | exact Below.refl _ _ | refine below_drewN ?_ _ | refine Below.drew ?_ | refine Below.alloc ?_ (by first | omega | (simp; done) | (simp; omega)) _ | refine Below.setCell ?_ (by first | omega | (simp; done) | (simp; omega)) _))⟩

theorem legs_grown {f : FuncId} {args : Array Value} {w : World} {v : Value}
    (h : ∀ w, Calls Tryz.prog f args w fun e w' => e = .returned v ∧ Below w.heap.size w w') (d : Nat) (os : Array Obj) :
    Calls Tryz.prog f args (grow (redrawn w d) os) fun e w'' => e = .returned v ∧ ∃ p : Regrown, w'' = grow (redrawn w p.d) p.os :=
  Calls.regrown_of (h _)

theorem ssurveyValid_any (a : Option Addr) (c : Nat) (n : Int) (l : List Lg) (w : World) (hl : l.length ≤ 1048576) (hs : Legs w a l) :
    Calls Tryz.prog 30 #[.agg #[.int .i64 n, .slice a l.length c]] w fun e w' => e = .returned (.bool (svOk ⟨n, l⟩)) ∧ Below w.heap.size w w' := by
  have hp : legsOk n l = false → svOk ⟨n, l⟩ = false := by intro h; simp [svOk, h]
  have HP := Lib.hid hp
  have hp2 : legsOk n l = true → svOk ⟨n, l⟩ = (inB n 1 6 && decide (l.length ≤ 9)) := by
    intro h
    rw [Bool.eq_iff_iff]
    simp only [svOk, h, inB, Bool.and_eq_true, Bool.not_eq_true', Bool.or_eq_false_iff, decide_eq_false_iff_not, decide_eq_true_eq]
    exact ⟨fun ⟨⟨⟨h1, h2⟩, h3⟩, _⟩ => ⟨⟨by omega, by omega⟩, by omega⟩, fun ⟨⟨h1, h2⟩, h3⟩ => ⟨⟨⟨by omega, by omega⟩, by omega⟩, trivial⟩⟩
  have HP2 := Lib.hid hp2
  clear hp hp2
  go_enter Tryz.func30, Tryz.ntmps30
  go_wp2_with fail
  go_loopw [3] (fun i wr => ∃ k : Nat, k ≤ l.length ∧ i = .int .i64 k ∧ Hid (legsOk n l = legsOk n (l.drop k)) ∧ Below (w.heap.size + 1) (w.alloc (.cells #[.int .i64 n, .slice a l.length c] 24)) wr) (fun i _ => l.length - (intOf i).toNat)
  case atStart => exact ⟨0, by omega, rfl, rfl, by first | exact Below.refl _ _ | exact (Below.refl _ _)⟩
  case round =>
    obtain ⟨k, hk, rfl, HR, hb⟩ := hrel
    have hz : w.heap.size < wr.heap.size := by have := hb.size; simp at this; omega
    have hbw : Below w.heap.size w wr := ((Below.refl w.heap.size w).alloc (Nat.le_refl _) _).trans (hb.mono (by omega))
    have c0 : wr.cell? ⟨w.heap.size, 0, none⟩ = some (.int .i64 n) := by rw [hb.cell (p := ⟨w.heap.size, 0, none⟩) (by simp)]; simp
    have c1 : wr.cell? ⟨w.heap.size, 1, none⟩ = some (.slice a l.length c) := by rw [hb.cell (p := ⟨w.heap.size, 1, none⟩) (by simp)]; simp
    by_cases hlt : k < l.length
    · obtain ⟨b, off, rfl, hbz, e1, e2, e3, e4, e5⟩ := Legs.at (hs.below hbw) hlt
      clear hs
      have HD := Lib.hid (legsOk_drop (n := n) hlt)
      go_wp2_with fail
      have k0 := cell_regrown c0
      have k1 := cell_regrown c1
      have k2 := cell_regrown e1
      have k3 := cell_regrown e2
      have k4 := cell_regrown e3
      have k5 := cell_regrown e4
      have k6 := cell_regrown e5
      have i1 := legs_grown (w := wr) (slegValid_any n (nth l k))
      simp only [Lg.val] at i1
      refine wp_region_quiet_below (by kernel_rfl) (by kernel_rfl) ?_
      repeat (quiet_step (first | with_reducible exact i1 _ _))
      refine wpQuiet_nil ?_
      intro _ hw'
      obtain ⟨⟨dq, osq⟩, hw''⟩ := hw'
      have hgr : Below wr.heap.size wr (grow (redrawn wr dq) osq) := below_regrown wr dq osq
      subst hw''
      generalize grow (redrawn wr dq) osq = W2 at hgr ⊢
      clear k0 k1 k2 k3 k4 k5 k6 i1 c0 c1 e1 e2 e3 e4 e5
      cases hx : legOk n (nth l k)
      · go_wp2
        go_ret
        refine ⟨by rw [HP.out (by rw [HR.out, HD.out]; simp [hx])]; rfl, hbw.trans (hgr.mono (by omega))⟩
      · go_wp2
        go_roundw
        case rel => exact ⟨k + 1, by omega, by go_num, by show _ = _; rw [HR.out, HD.out]; simp [hx], hb.trans (hgr.mono (by omega))⟩
        case measure => simp [intOf]; omega
    · have hok : legsOk n l = true := by rw [HR.out, List.drop_eq_nil_of_le (by omega)]; rfl
      have HS := Lib.hid (HP2.out hok)
      clear hok
      cases h6 : inB n 1 6
      · go_wp2_with (go_at_call 32; refine (l1In_any _ _ _ _).mono ?_; rintro e w' ⟨rfl, rfl⟩)
        go_ret
        exact ⟨by rw [HS.out, h6]; rfl, hbw⟩
      · go_wp2_with (go_at_call 32; refine (l1In_any _ _ _ _).mono ?_; rintro e w' ⟨rfl, rfl⟩)
        go_ret
        exact ⟨by rw [HS.out, h6]; simp; omega, hbw⟩
end Go.Proofs.YtgggbapcpjfljaaGreatDoor
