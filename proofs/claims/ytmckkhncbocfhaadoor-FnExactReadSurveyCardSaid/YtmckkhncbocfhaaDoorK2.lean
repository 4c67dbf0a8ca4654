/- Walks: legs and surveys are valid (impl and spec). Walks: legs and surveys are valid, in the reference's words. Walks: copies of surveys (impl and spec), deeds fit. Walks: legs turned round, deeds fit (impl and spec). Walks: slices.Insert and slices.Delete of legs, over a row of the call's own. -/
import Derived.Test.YtmckkhncbocfhaaDoorProg
import Derived.Test.YtmckkhncbocfhaaDoorK1
import Derived.Lib.QuietBelow
import Derived.Deep.RegionWith
import Derived.Lib.SliceRun
import Derived.Lib.Overlaps
import Derived.Shelf.RegionOpenPlain
set_option linter.unusedSimpArgs false
set_option linter.unusedVariables false
namespace Go.Proofs.YtmckkhncbocfhaaDoor
open Go Go.RowKit Go.Sort

theorem isIndex_any (n m : Int) (w : World) :
    Calls Tryd.prog 40 #[.int .i64 n, .int .i64 m] w fun e w' => e = .returned (.bool (isIdx n m)) ∧ w = w' := by
  by_cases h : 0 ≤ n
  · go_enter Tryd.func40, Tryd.ntmps40
    go_wp2
    go_ret
    exact ⟨by simp [isIdx, h], rfl⟩
  · have h' : decide (0 ≤ n) = false := by simpa using h
    have H := Lib.hid h'
    clear h'
    go_enter Tryd.func40, Tryd.ntmps40
    go_wp2
    go_ret
    exact ⟨by simp only [isIdx, H.out]; rfl, rfl⟩

theorem isWithin_any (n m : Int) (w : World) (hm : 0 ≤ m) (hm' : m ≤ 1000000) :
    Calls Tryd.prog 75 #[.int .i64 n, .int .i64 m] w fun e w' => e = .returned (.bool (isIn n m)) ∧ w = w' := by
  by_cases h : -m ≤ n
  · go_enter Tryd.func75, Tryd.ntmps75
    go_wp2
    go_ret
    exact ⟨by simp [isIn, h], rfl⟩
  · have h' : decide (-m ≤ n) = false := by simpa using h
    have H := Lib.hid h'
    clear h'
    go_enter Tryd.func75, Tryd.ntmps75
    go_wp2
    go_ret
    exact ⟨by simp only [isIn, H.out]; rfl, rfl⟩

theorem stepFits_any (n : Int) (w : World) :
    Calls Tryd.prog 66 #[.int .i64 n] w fun e w' => e = .returned (.bool (isIn n 99)) ∧ w = w' := by
  go_enter Tryd.func66, Tryd.ntmps66
  go_wp2_with (go_at_call 75; refine (isWithin_any _ _ _ (by omega) (by omega)).mono ?_; rintro e w' ⟨rfl, rfl⟩)
  go_ret
  exact ⟨rfl, rfl⟩

theorem legValid_any (n : Int) (g : Lg) (w : World) :
    Calls Tryd.prog 55 #[.int .i64 n, g.val] w fun e w' => e = .returned (.bool (legOk n g)) ∧ Below w.heap.size w w' := by
  obtain ⟨x1, x2, x3, x4, x5⟩ := g
  show Calls Tryd.prog 55 #[.int .i64 n, .agg #[.int .i64 x1, .int .i64 x2, .int .i64 x3, .int .i64 x4, .int .i64 x5]] w _
  by_cases h1 : n < 1
  · go_enter Tryd.func55, Tryd.ntmps55
    go_wp2
    go_ret
    exact ⟨by simp [legOk, h1], (by repeat (first | with_reducible assumption | exact Below.refl _ _ | refine below_drewN ?_ _ | refine Below.drew ?_ | refine Below.alloc ?_ (by first | omega | (simp; done) | (simp; omega)) _ | refine Below.setCell ?_ (by first | omega | (simp; done) | (simp; omega)) _))⟩
  by_cases h2 : 6 < n
  · go_enter Tryd.func55, Tryd.ntmps55
    go_wp2
    go_ret
    exact ⟨by simp [legOk, h2], (by repeat (first | with_reducible assumption | exact Below.refl _ _ | refine below_drewN ?_ _ | refine Below.drew ?_ | refine Below.alloc ?_ (by first | omega | (simp; done) | (simp; omega)) _ | refine Below.setCell ?_ (by first | omega | (simp; done) | (simp; omega)) _))⟩
  cases h3 : isIdx x1 n
  · go_enter Tryd.func55, Tryd.ntmps55
    go_wp2_with (go_at_call 40; refine (isIndex_any _ _ _).mono ?_; rintro e w' ⟨rfl, rfl⟩)
    go_ret
    exact ⟨by simp [legOk, h3], (by repeat (first | with_reducible assumption | exact Below.refl _ _ | refine below_drewN ?_ _ | refine Below.drew ?_ | refine Below.alloc ?_ (by first | omega | (simp; done) | (simp; omega)) _ | refine Below.setCell ?_ (by first | omega | (simp; done) | (simp; omega)) _))⟩
  cases h4 : isIdx x2 n
  · go_enter Tryd.func55, Tryd.ntmps55
    go_wp2_with (go_at_call 40; refine (isIndex_any _ _ _).mono ?_; rintro e w' ⟨rfl, rfl⟩)
    go_ret
    exact ⟨by simp [legOk, h4], (by repeat (first | with_reducible assumption | exact Below.refl _ _ | refine below_drewN ?_ _ | refine Below.drew ?_ | refine Below.alloc ?_ (by first | omega | (simp; done) | (simp; omega)) _ | refine Below.setCell ?_ (by first | omega | (simp; done) | (simp; omega)) _))⟩
  by_cases h5 : x1 = x2
  · subst h5
    go_enter Tryd.func55, Tryd.ntmps55
    go_wp2_with (go_at_call 40; refine (isIndex_any _ _ _).mono ?_; rintro e w' ⟨rfl, rfl⟩)
    go_ret
    exact ⟨by simp [legOk], (by repeat (first | with_reducible assumption | exact Below.refl _ _ | refine below_drewN ?_ _ | refine Below.drew ?_ | refine Below.alloc ?_ (by first | omega | (simp; done) | (simp; omega)) _ | refine Below.setCell ?_ (by first | omega | (simp; done) | (simp; omega)) _))⟩
  cases h6 : isIn x3 99
  · go_enter Tryd.func55, Tryd.ntmps55
    go_wp2_with (first | (go_at_call 40; refine (isIndex_any _ _ _).mono ?_; rintro e w' ⟨rfl, rfl⟩) | (go_at_call 66; refine (stepFits_any _ _).mono ?_; rintro e w' ⟨rfl, rfl⟩))
    go_ret
    exact ⟨by simp [legOk, h6], (by repeat (first | with_reducible assumption | exact Below.refl _ _ | refine below_drewN ?_ _ | refine Below.drew ?_ | refine Below.alloc ?_ (by first | omega | (simp; done) | (simp; omega)) _ | refine Below.setCell ?_ (by first | omega | (simp; done) | (simp; omega)) _))⟩
  cases h7 : isIn x4 99
  · go_enter Tryd.func55, Tryd.ntmps55
    go_wp2_with (first | (go_at_call 40; refine (isIndex_any _ _ _).mono ?_; rintro e w' ⟨rfl, rfl⟩) | (go_at_call 66; refine (stepFits_any _ _).mono ?_; rintro e w' ⟨rfl, rfl⟩))
    go_ret
    exact ⟨by simp [legOk, h7], (by repeat (first | with_reducible assumption | exact Below.refl _ _ | refine below_drewN ?_ _ | refine Below.drew ?_ | refine Below.alloc ?_ (by first | omega | (simp; done) | (simp; omega)) _ | refine Below.setCell ?_ (by first | omega | (simp; done) | (simp; omega)) _))⟩
  · have hL : legOk n ⟨x1, x2, x3, x4, x5⟩ = isIn x5 99 := by simp [legOk, h1, h2, h3, h4, h5, h6, h7]
    have HL := Lib.hid hL
    clear hL
    go_enter Tryd.func55, Tryd.ntmps55
    go_wp2_with (first | (go_at_call 40; refine (isIndex_any _ _ _).mono ?_; rintro e w' ⟨rfl, rfl⟩) | (go_at_call 66; refine (stepFits_any _ _).mono ?_; rintro e w' ⟨rfl, rfl⟩))
    go_ret
    exact ⟨by rw [HL.out]; rfl, (by repeat (first | with_reducible assumption | exact Below.refl _ _ | refine below_drewN ?_ _ | refine Below.drew ?_ | refine Below.alloc ?_ (by first | omega | (simp; done) | (simp; omega)) _ | refine Below.setCell ?_ (by first | omega | (simp; done) | (simp; omega)) _))⟩

theorem surveyValid_any (a : Option Addr) (c : Nat) (n : Int) (l : List Lg) (w : World) (hl : l.length ≤ 1048576) (hs : Legs w a l) :
    Calls Tryd.prog 44 #[.agg #[.int .i64 n, .slice a l.length c]] w fun e w' => e = .returned (.bool (svOk ⟨n, l⟩)) ∧ Below w.heap.size w w' := by
  by_cases h1 : n < 1
  · go_enter Tryd.func44, Tryd.ntmps44
    go_wp2
    go_ret
    exact ⟨by simp [svOk, h1], (by repeat (first | with_reducible assumption | exact Below.refl _ _ | refine below_drewN ?_ _ | refine Below.drew ?_ | refine Below.alloc ?_ (by first | omega | (simp; done) | (simp; omega)) _ | refine Below.setCell ?_ (by first | omega | (simp; done) | (simp; omega)) _))⟩
  by_cases h2 : 6 < n
  · go_enter Tryd.func44, Tryd.ntmps44
    go_wp2
    go_ret
    exact ⟨by simp [svOk, h2], (by repeat (first | with_reducible assumption | exact Below.refl _ _ | refine below_drewN ?_ _ | refine Below.drew ?_ | refine Below.alloc ?_ (by first | omega | (simp; done) | (simp; omega)) _ | refine Below.setCell ?_ (by first | omega | (simp; done) | (simp; omega)) _))⟩
  by_cases h3 : l.length ≤ 9
  · have hp : svOk ⟨n, l⟩ = legsOk n l := by simp [svOk, h1, h2, h3]
    have HP := Lib.hid hp
    clear hp
    go_enter Tryd.func44, Tryd.ntmps44
    go_wp2_with fail
    go_loopw [22] (fun i wr => ∃ k : Nat, k ≤ l.length ∧ i = .int .i64 k ∧ Hid (legsOk n l = legsOk n (l.drop k)) ∧ Below (w.heap.size + 1) (w.alloc (.cells #[.int .i64 n, .slice a l.length c] 32)) wr) (fun i _ => l.length - (intOf i).toNat)
    case atStart => exact ⟨0, by omega, rfl, rfl, by first | exact Below.refl _ _ | exact (Below.refl _ _)⟩
    case round =>
      obtain ⟨k, hk, rfl, HR, hb⟩ := hrel
      have hz : w.heap.size < wr.heap.size := by have := hb.size; simp at this; omega
      have hbw : Below w.heap.size w wr := ((Below.refl w.heap.size w).alloc (Nat.le_refl _) _).trans (hb.mono (by omega))
      have c0 : wr.cell? ⟨w.heap.size, 0, none⟩ = some (.int .i64 n) := by rw [hb.cell (p := ⟨w.heap.size, 0, none⟩) (by simp)]; simp
      by_cases hlt : k < l.length
      · obtain ⟨b, off, rfl, hbz, e1, e2, e3, e4, e5⟩ := Legs.at (hs.below hbw) hlt
        clear hs
        have HD := Lib.hid (legsOk_drop (n := n) hlt)
        cases hx : legOk n (nth l k)
        · go_wp2_with (go_at_call 55; refine (legValid_any n (nth l k) _).mono ?_; rintro e w' ⟨rfl, hb2⟩)
          go_ret
          refine ⟨by rw [HP.out, HR.out, HD.out]; simp [hx], (hbw.alloc (by omega) _).trans (hb2.mono (by simp; omega))⟩
        · go_wp2_with (go_at_call 55; refine (legValid_any n (nth l k) _).mono ?_; rintro e w' ⟨rfl, hb2⟩)
          go_roundw
          case rel => exact ⟨k + 1, by omega, by go_num, by show _ = _; rw [HR.out, HD.out]; simp [hx], (hb.alloc (by omega) _).trans (hb2.mono (by simp; omega))⟩
          case measure => simp [intOf]; omega
      · go_wp2
        go_ret
        exact ⟨by rw [HP.out, HR.out, List.drop_eq_nil_of_le (by omega)]; rfl, hbw⟩
  · go_enter Tryd.func44, Tryd.ntmps44
    go_wp2
    go_ret
    exact ⟨by simp [svOk, h3], (by repeat (first | with_reducible assumption | exact Below.refl _ _ | refine below_drewN ?_ _ | refine Below.drew ?_ | refine Below.alloc ?_ (by first | omega | (simp; done) | (simp; omega)) _ | refine Below.setCell ?_ (by first | omega | (simp; done) | (simp; omega)) _))⟩
end Go.Proofs.YtmckkhncbocfhaaDoor

namespace Go.Proofs.YtmckkhncbocfhaaDoor
open Go Go.RowKit Go.Sort

def inB (n lo hi : Int) : Bool := decide (lo ≤ n) && decide (n ≤ hi)
theorem l1In_any (n lo hi : Int) (w : World) :
    Calls Tryd.prog 45 #[.int .i64 n, .int .i64 lo, .int .i64 hi] w fun e w' => e = .returned (.bool (inB n lo hi)) ∧ w = w' := by
  by_cases h : lo ≤ n
  · go_enter Tryd.func45, Tryd.ntmps45
    go_wp2
    go_ret
    exact ⟨by simp [inB, h], rfl⟩
  · have h' : decide (lo ≤ n) = false := by simpa using h
    have H := Lib.hid h'
    clear h'
    go_enter Tryd.func45, Tryd.ntmps45
    go_wp2
    go_ret
    exact ⟨by simp only [inB, H.out]; rfl, rfl⟩

theorem legOk_in (n : Int) (x1 x2 x3 x4 x5 : Int) : legOk n ⟨x1, x2, x3, x4, x5⟩ = (inB n 1 6 && inB x1 0 (n - 1) && inB x2 0 (n - 1) && !decide (x1 = x2) && inB x3 (-99) 99 && inB x4 (-99) 99 && inB x5 (-99) 99) := by
  rw [Bool.eq_iff_iff]
  simp only [legOk, inB, isIdx, isIn, Bool.and_eq_true, Bool.not_eq_true', Bool.or_eq_false_iff, decide_eq_false_iff_not, decide_eq_true_eq]
  omega

theorem slegValid_any (n : Int) (g : Lg) (w : World) :
    Calls Tryd.prog 46 #[.int .i64 n, g.val] w fun e w' => e = .returned (.bool (legOk n g)) ∧ Below w.heap.size w w' := by
  obtain ⟨x1, x2, x3, x4, x5⟩ := g
  show Calls Tryd.prog 46 #[.int .i64 n, .agg #[.int .i64 x1, .int .i64 x2, .int .i64 x3, .int .i64 x4, .int .i64 x5]] w _
  have HL := Lib.hid (legOk_in n x1 x2 x3 x4 x5)
  cases h1 : inB n 1 6
  · go_enter Tryd.func46, Tryd.ntmps46
    go_wp2_with (go_at_call 45; refine (l1In_any _ _ _ _).mono ?_; rintro e w' ⟨rfl, rfl⟩)
    go_ret
    exact ⟨by rw [HL.out]; simp [h1], (by repeat (first | with_reducible assumption | exact Below.refl _ _ | refine below_drewN ?_ _ | refine Below.drew ?_ | refine Below.alloc ?_ (by first | omega | (simp; done) | (simp; omega)) _ | refine Below.setCell ?_ (by first | omega | (simp; done) | (simp; omega)) _))⟩
  have hn : 1 ≤ n ∧ n ≤ 6 := by simpa [inB] using h1
  obtain ⟨hn1, hn2⟩ := hn
  cases h3 : inB x1 0 (n - 1)
  · go_enter Tryd.func46, Tryd.ntmps46
    go_wp2_with (go_at_call 45; refine (l1In_any _ _ _ _).mono ?_; rintro e w' ⟨rfl, rfl⟩)
    go_ret
    exact ⟨by rw [HL.out]; simp [h3], (by repeat (first | with_reducible assumption | exact Below.refl _ _ | refine below_drewN ?_ _ | refine Below.drew ?_ | refine Below.alloc ?_ (by first | omega | (simp; done) | (simp; omega)) _ | refine Below.setCell ?_ (by first | omega | (simp; done) | (simp; omega)) _))⟩
  cases h4 : inB x2 0 (n - 1)
  · go_enter Tryd.func46, Tryd.ntmps46
    go_wp2_with (go_at_call 45; refine (l1In_any _ _ _ _).mono ?_; rintro e w' ⟨rfl, rfl⟩)
    go_ret
    exact ⟨by rw [HL.out]; simp [h4], (by repeat (first | with_reducible assumption | exact Below.refl _ _ | refine below_drewN ?_ _ | refine Below.drew ?_ | refine Below.alloc ?_ (by first | omega | (simp; done) | (simp; omega)) _ | refine Below.setCell ?_ (by first | omega | (simp; done) | (simp; omega)) _))⟩
  by_cases h5 : x1 = x2
  · subst h5
    go_enter Tryd.func46, Tryd.ntmps46
    go_wp2_with (go_at_call 45; refine (l1In_any _ _ _ _).mono ?_; rintro e w' ⟨rfl, rfl⟩)
    go_ret
    exact ⟨by rw [HL.out]; simp, (by repeat (first | with_reducible assumption | exact Below.refl _ _ | refine below_drewN ?_ _ | refine Below.drew ?_ | refine Below.alloc ?_ (by first | omega | (simp; done) | (simp; omega)) _ | refine Below.setCell ?_ (by first | omega | (simp; done) | (simp; omega)) _))⟩
  cases h6 : inB x3 (-99) 99
  · go_enter Tryd.func46, Tryd.ntmps46
    go_wp2_with (go_at_call 45; refine (l1In_any _ _ _ _).mono ?_; rintro e w' ⟨rfl, rfl⟩)
    go_ret
    exact ⟨by rw [HL.out]; simp [h6], (by repeat (first | with_reducible assumption | exact Below.refl _ _ | refine below_drewN ?_ _ | refine Below.drew ?_ | refine Below.alloc ?_ (by first | omega | (simp; done) | (simp; omega)) _ | refine Below.setCell ?_ (by first | omega | (simp; done) | (simp; omega)) _))⟩
  cases h7 : inB x4 (-99) 99
  · go_enter Tryd.func46, Tryd.ntmps46
    go_wp2_with (go_at_call 45; refine (l1In_any _ _ _ _).mono ?_; rintro e w' ⟨rfl, rfl⟩)
    go_ret
    exact ⟨by rw [HL.out]; simp [h7], (by repeat (first | with_reducible assumption | exact Below.refl _ _ | refine below_drewN ?_ _ | refine Below.drew ?_ | refine Below.alloc ?_ (by first | omega | (simp; done) | (simp; omega)) _ | refine Below.setCell ?_ (by first | omega | (simp; done) | (simp; omega)) _))⟩
  · go_enter Tryd.func46, Tryd.ntmps46
    go_wp2_with (go_at_call 45; refine (l1In_any _ _ _ _).mono ?_; rintro e w' ⟨rfl, rfl⟩)
    go_ret
    exact ⟨by rw [HL.out]; simp [h1, h3, h4, h5, h6, h7], (by repeat (first | with_reducible assumption | exact Below.refl _ _ | refine below_drewN ?_ _ | refine Below.drew ?_ | refine Below.alloc ?_ (by first | omega | (simp; done) | (simp; omega)) _ | refine Below.setCell ?_ (by first | omega | (simp; done) | (simp; omega)) _))⟩

theorem legs_grown {f : FuncId} {args : Array Value} {w : World} {v : Value}
    (h : ∀ w, Calls Tryd.prog f args w fun e w' => e = .returned v ∧ Below w.heap.size w w') (d : Nat) (os : Array Obj) :
    Calls Tryd.prog f args (grow (redrawn w d) os) fun e w'' => e = .returned v ∧ ∃ p : Regrown, w'' = grow (redrawn w p.d) p.os :=
  Calls.regrown_of (h _)

theorem ssurveyValid_any (a : Option Addr) (c : Nat) (n : Int) (l : List Lg) (w : World) (hl : l.length ≤ 1048576) (hs : Legs w a l) :
    Calls Tryd.prog 42 #[.agg #[.int .i64 n, .slice a l.length c]] w fun e w' => e = .returned (.bool (svOk ⟨n, l⟩)) ∧ Below w.heap.size w w' := by
  have hp : legsOk n l = false → svOk ⟨n, l⟩ = false := by intro h; simp [svOk, h]
  have HP := Lib.hid hp
  have hp2 : legsOk n l = true → svOk ⟨n, l⟩ = (inB n 1 6 && decide (l.length ≤ 9)) := by
    intro h
    rw [Bool.eq_iff_iff]
    simp only [svOk, h, inB, Bool.and_eq_true, Bool.not_eq_true', Bool.or_eq_false_iff, decide_eq_false_iff_not, decide_eq_true_eq]
    exact ⟨fun ⟨⟨⟨h1, h2⟩, h3⟩, _⟩ => ⟨⟨by omega, by omega⟩, by omega⟩, fun ⟨⟨h1, h2⟩, h3⟩ => ⟨⟨⟨by omega, by omega⟩, by omega⟩, trivial⟩⟩
  have HP2 := Lib.hid hp2
  clear hp hp2
  go_enter Tryd.func42, Tryd.ntmps42
  go_wp2_with fail
  go_loopw [3] (fun i wr => ∃ k : Nat, k ≤ l.length ∧ i = .int .i64 k ∧ Hid (legsOk n l = legsOk n (l.drop k)) ∧ Below (w.heap.size + 1) (w.alloc (.cells #[.int .i64 n, .slice a l.length c] 32)) wr) (fun i _ => l.length - (intOf i).toNat)
  case atStart => exact ⟨0, by omega, rfl, rfl, by first | exact Below.refl _ _ | exact (Below.refl _ _)⟩
  case round =>
    obtain ⟨k, hk, rfl, HR, hb⟩ := hrel
    have hz : w.heap.size < wr.heap.size := by have := hb.size; simp at this; omega
    have hbw : Below w.heap.size w wr := ((Below.refl w.heap.size w).alloc (Nat.le_refl _) _).trans (hb.mono (by omega))
    have c0 : wr.cell? ⟨w.heap.size, 0, none⟩ = some (.int .i64 n) := by rw [hb.cell (p := ⟨w.heap.size, 0, none⟩) (by simp)]; simp
    have c1 : wr.cell? ⟨w.heap.size, 1, none⟩ = some (.slice a l.length c) := by rw [hb.cell (p := ⟨w.heap.size, 1, none⟩) (by simp)]; simp
    by_cases hlt : k < l.length
    · obtain ⟨b, off, rfl, hbz, e1, e2, e3, e4, e5⟩ := Legs.at (hs.below hbw) hlt
      clear hs
      have HD := Lib.hid (legsOk_drop (n := n) hlt)
      go_wp2_with fail
      have k0 := cell_regrown c0
      have k1 := cell_regrown c1
      have k2 := cell_regrown e1
      have k3 := cell_regrown e2
      have k4 := cell_regrown e3
      have k5 := cell_regrown e4
      have k6 := cell_regrown e5
      have i1 := legs_grown (w := wr) (slegValid_any n (nth l k))
      simp only [Lg.val] at i1
      refine wp_region_quiet_below (by kernel_rfl) (by kernel_rfl) ?_
      repeat (quiet_step (first | with_reducible exact i1 _ _))
      refine wpQuiet_nil ?_
      intro _ hw'
      obtain ⟨⟨dq, osq⟩, hw''⟩ := hw'
      have hgr : Below wr.heap.size wr (grow (redrawn wr dq) osq) := below_regrown wr dq osq
      subst hw''
      generalize grow (redrawn wr dq) osq = W2 at hgr ⊢
      clear k0 k1 k2 k3 k4 k5 k6 i1 c0 c1 e1 e2 e3 e4 e5
      cases hx : legOk n (nth l k)
      · go_wp2
        go_ret
        refine ⟨by rw [HP.out (by rw [HR.out, HD.out]; simp [hx])]; rfl, hbw.trans (hgr.mono (by omega))⟩
      · go_wp2
        go_roundw
        case rel => exact ⟨k + 1, by omega, by go_num, by show _ = _; rw [HR.out, HD.out]; simp [hx], hb.trans (hgr.mono (by omega))⟩
        case measure => simp [intOf]; omega
    · have hok : legsOk n l = true := by rw [HR.out, List.drop_eq_nil_of_le (by omega)]; rfl
      have HS := Lib.hid (HP2.out hok)
      clear hok
      cases h6 : inB n 1 6
      · go_wp2_with (go_at_call 45; refine (l1In_any _ _ _ _).mono ?_; rintro e w' ⟨rfl, rfl⟩)
        go_ret
        exact ⟨by rw [HS.out, h6]; rfl, hbw⟩
      · go_wp2_with (go_at_call 45; refine (l1In_any _ _ _ _).mono ?_; rintro e w' ⟨rfl, rfl⟩)
        go_ret
        exact ⟨by rw [HS.out, h6]; simp; omega, hbw⟩
end Go.Proofs.YtmckkhncbocfhaaDoor

namespace Go.Proofs.YtmckkhncbocfhaaDoor
open Go Go.RowKit Go.Sort

/-- legs of the call's own -/
abbrev OwnL (w : World) (B : Nat) (v : Value) (l : List Lg) : Prop := KOwn legK 23 w B v l
theorem infoLeg : (Tryd.prog.info? 23).map (fun i => (i.zero, i.size, i.bytes)) = some (some (.agg #[.int .i64 0, .int .i64 0, .int .i64 0, .int .i64 0, .int .i64 0]), 5, 40) := by kernel_rfl

theorem legI : KInfo Tryd.prog legK 23 30 := by
  obtain ⟨i0, hi, hz0, hz1, hz2⟩ := info_parts infoLeg
  exact ⟨Tryd.underlying30, ⟨i0, _, 40, hi, hz0, hz1, hz2, rfl, by omega⟩, by decide⟩

/-- a survey comes back, its legs the call's own -/
def SvRet (s : Sv) (w : World) (e : Ending) (w' : World) : Prop := ∃ v, e = .returned (.agg #[.int .i64 s.st, v]) ∧ OwnL w' w.heap.size v s.legs ∧ Below w.heap.size w w'

end Go.Proofs.YtmckkhncbocfhaaDoor

namespace Go.Proofs.YtmckkhncbocfhaaDoor
open Go Go.RowKit Go.Sort

def legEq (x1 x2 x3 x4 x5 y1 y2 y3 y4 y5 : Int) : Bool := decide (x1 = y1) && (decide (x2 = y2) && (decide (x3 = y3) && (decide (x4 = y4) && decide (x5 = y5))))
theorem run_legEq (x1 x2 x3 x4 x5 y1 y2 y3 y4 y5 : Int) (w : World) : (binOp .eql 23 (.agg #[.int .i64 x1, .int .i64 x2, .int .i64 x3, .int .i64 x4, .int .i64 x5]) (.agg #[.int .i64 y1, .int .i64 y2, .int .i64 y3, .int .i64 y4, .int .i64 y5])).run Tryd.prog w = .ok (.bool (legEq x1 x2 x3 x4 x5 y1 y2 y3 y4 y5)) w := by
  by_cases h1 : x1 = y1 <;> by_cases h2 : x2 = y2 <;> by_cases h3 : x3 = y3 <;> by_cases h4 : x4 = y4 <;> by_cases h5 : x5 = y5 <;> (go_simp; simp [legEq, h1, h2, h3, h4, h5])
theorem run_legNe (x1 x2 x3 x4 x5 y1 y2 y3 y4 y5 : Int) (w : World) : (binOp .neq 23 (.agg #[.int .i64 x1, .int .i64 x2, .int .i64 x3, .int .i64 x4, .int .i64 x5]) (.agg #[.int .i64 y1, .int .i64 y2, .int .i64 y3, .int .i64 y4, .int .i64 y5])).run Tryd.prog w = .ok (.bool (!legEq x1 x2 x3 x4 x5 y1 y2 y3 y4 y5)) w := by
  by_cases h1 : x1 = y1 <;> by_cases h2 : x2 = y2 <;> by_cases h3 : x3 = y3 <;> by_cases h4 : x4 = y4 <;> by_cases h5 : x5 = y5 <;> (go_simp; simp [legEq, h1, h2, h3, h4, h5])
theorem legEq_iff (g h : Lg) : legEq g.frm g.to g.east g.north g.up h.frm h.to h.east h.north h.up = decide (g = h) := by
  obtain ⟨x1, x2, x3, x4, x5⟩ := g
  obtain ⟨y1, y2, y3, y4, y5⟩ := h
  rw [Bool.eq_iff_iff]
  simp [legEq]
theorem legEq_no (g : Lg) : legEq g.frm g.to g.east g.north g.up 0 0 0 0 0 = decide (g = noLeg) := legEq_iff g noLeg

theorem deedFits_any (d : Dd) (w : World) :
    Calls Tryd.prog 39 #[d.val] w fun e w' => e = .returned (.bool (ddFits d)) ∧ Below w.heap.size w w' := by
  have HN := Lib.hid (legEq_no d.leg)
  obtain ⟨kd, ix, ⟨x1, x2, x3, x4, x5⟩⟩ := d
  simp only at HN
  show Calls Tryd.prog 39 #[.agg #[.int .i64 kd, .int .i64 ix, .int .i64 x1, .int .i64 x2, .int .i64 x3, .int .i64 x4, .int .i64 x5]] w _
  by_cases h0 : kd = 0
  · subst h0
    go_enter Tryd.func39, Tryd.ntmps39
    go_wp2
    go_ret
    exact ⟨by simp [ddFits], (by repeat (first | with_reducible assumption | exact Below.refl _ _ | refine below_drewN ?_ _ | refine Below.drew ?_ | refine Below.alloc ?_ (by first | omega | (simp; done) | (simp; omega)) _ | refine Below.setCell ?_ (by first | omega | (simp; done) | (simp; omega)) _))⟩
  by_cases h3 : kd = 3
  · subst h3
    go_enter Tryd.func39, Tryd.ntmps39
    go_wp2
    go_ret
    exact ⟨by simp [ddFits], (by repeat (first | with_reducible assumption | exact Below.refl _ _ | refine below_drewN ?_ _ | refine Below.drew ?_ | refine Below.alloc ?_ (by first | omega | (simp; done) | (simp; omega)) _ | refine Below.setCell ?_ (by first | omega | (simp; done) | (simp; omega)) _))⟩
  have hE := run_legEq x1 x2 x3 x4 x5 0 0 0 0 0
  by_cases h1 : kd = 1
  · subst h1
    go_enter Tryd.func39, Tryd.ntmps39
    go_wp2
    go_ret
    exact ⟨by simp [ddFits, ← HN.out], (by repeat (first | with_reducible assumption | exact Below.refl _ _ | refine below_drewN ?_ _ | refine Below.drew ?_ | refine Below.alloc ?_ (by first | omega | (simp; done) | (simp; omega)) _ | refine Below.setCell ?_ (by first | omega | (simp; done) | (simp; omega)) _))⟩
  by_cases h2 : kd = 2
  · subst h2
    go_enter Tryd.func39, Tryd.ntmps39
    go_wp2
    go_ret
    exact ⟨by simp [ddFits, ← HN.out], (by repeat (first | with_reducible assumption | exact Below.refl _ _ | refine below_drewN ?_ _ | refine Below.drew ?_ | refine Below.alloc ?_ (by first | omega | (simp; done) | (simp; omega)) _ | refine Below.setCell ?_ (by first | omega | (simp; done) | (simp; omega)) _))⟩
  by_cases h4 : kd = 4
  · subst h4
    cases hx : legEq x1 x2 x3 x4 x5 0 0 0 0 0
    · go_enter Tryd.func39, Tryd.ntmps39
      go_wp2
      go_ret
      exact ⟨by simp [ddFits, ← HN.out, hx], (by repeat (first | with_reducible assumption | exact Below.refl _ _ | refine below_drewN ?_ _ | refine Below.drew ?_ | refine Below.alloc ?_ (by first | omega | (simp; done) | (simp; omega)) _ | refine Below.setCell ?_ (by first | omega | (simp; done) | (simp; omega)) _))⟩
    · go_enter Tryd.func39, Tryd.ntmps39
      go_wp2
      go_ret
      exact ⟨by simp [ddFits, ← HN.out, hx]; rfl, (by repeat (first | with_reducible assumption | exact Below.refl _ _ | refine below_drewN ?_ _ | refine Below.drew ?_ | refine Below.alloc ?_ (by first | omega | (simp; done) | (simp; omega)) _ | refine Below.setCell ?_ (by first | omega | (simp; done) | (simp; omega)) _))⟩
  by_cases h5 : kd = 5
  · subst h5
    cases hx : legEq x1 x2 x3 x4 x5 0 0 0 0 0
    · go_enter Tryd.func39, Tryd.ntmps39
      go_wp2
      go_ret
      exact ⟨by simp [ddFits, ← HN.out, hx], (by repeat (first | with_reducible assumption | exact Below.refl _ _ | refine below_drewN ?_ _ | refine Below.drew ?_ | refine Below.alloc ?_ (by first | omega | (simp; done) | (simp; omega)) _ | refine Below.setCell ?_ (by first | omega | (simp; done) | (simp; omega)) _))⟩
    · go_enter Tryd.func39, Tryd.ntmps39
      go_wp2
      go_ret
      exact ⟨by simp [ddFits, ← HN.out, hx]; rfl, (by repeat (first | with_reducible assumption | exact Below.refl _ _ | refine below_drewN ?_ _ | refine Below.drew ?_ | refine Below.alloc ?_ (by first | omega | (simp; done) | (simp; omega)) _ | refine Below.setCell ?_ (by first | omega | (simp; done) | (simp; omega)) _))⟩
  · go_enter Tryd.func39, Tryd.ntmps39
    go_wp2
    go_ret
    exact ⟨by simp [ddFits, h0, h1, h2, h3, h4, h5], (by repeat (first | with_reducible assumption | exact Below.refl _ _ | refine below_drewN ?_ _ | refine Below.drew ?_ | refine Below.alloc ?_ (by first | omega | (simp; done) | (simp; omega)) _ | refine Below.setCell ?_ (by first | omega | (simp; done) | (simp; omega)) _))⟩

/-- a deed as the reference takes it -/
def ddIn (d : Dd) : Bool := inB d.kind 0 5 && inB d.index 0 9 && (!(decide (d.kind = 4) || decide (d.kind = 5)) || decide (d.index = 0)) && (if d.kind = 0 ∨ d.kind = 3 then legOk 6 d.leg else decide (d.leg = noLeg))
set_option maxHeartbeats 2000000 in
theorem l7Deed_any (d : Dd) (w : World) :
    Calls Tryd.prog 32 #[d.val] w fun e w' => e = .returned (.bool (ddIn d)) ∧ Below w.heap.size w w' := by
  have HN := Lib.hid (legEq_no d.leg)
  obtain ⟨kd, ix, ⟨x1, x2, x3, x4, x5⟩⟩ := d
  simp only at HN
  show Calls Tryd.prog 32 #[.agg #[.int .i64 kd, .int .i64 ix, .int .i64 x1, .int .i64 x2, .int .i64 x3, .int .i64 x4, .int .i64 x5]] w _
  cases h1 : inB kd 0 5
  · have hk : kd ≠ 0 ∧ kd ≠ 3 ∧ kd ≠ 4 ∧ kd ≠ 5 := by simp [inB] at h1; omega
    obtain ⟨h0, h3, h4, h5⟩ := hk
    go_enter Tryd.func32, Tryd.ntmps32
    go_wp2_with (go_at_call 45; refine (l1In_any _ _ _ _).mono ?_; rintro e w' ⟨rfl, rfl⟩)
    go_ret
    exact ⟨by simp [ddIn, h1], (by repeat (first | with_reducible assumption | exact Below.refl _ _ | refine below_drewN ?_ _ | refine Below.drew ?_ | refine Below.alloc ?_ (by first | omega | (simp; done) | (simp; omega)) _ | refine Below.setCell ?_ (by first | omega | (simp; done) | (simp; omega)) _))⟩
  cases h2 : inB ix 0 9
  · by_cases h0 : kd = 0
    · subst h0
      go_enter Tryd.func32, Tryd.ntmps32
      go_wp2_with (go_at_call 45; refine (l1In_any _ _ _ _).mono ?_; rintro e w' ⟨rfl, rfl⟩)
      go_ret
      exact ⟨by simp [ddIn, h2], (by repeat (first | with_reducible assumption | exact Below.refl _ _ | refine below_drewN ?_ _ | refine Below.drew ?_ | refine Below.alloc ?_ (by first | omega | (simp; done) | (simp; omega)) _ | refine Below.setCell ?_ (by first | omega | (simp; done) | (simp; omega)) _))⟩
    by_cases h4 : kd = 4
    · subst h4
      go_enter Tryd.func32, Tryd.ntmps32
      go_wp2_with (go_at_call 45; refine (l1In_any _ _ _ _).mono ?_; rintro e w' ⟨rfl, rfl⟩)
      go_ret
      exact ⟨by simp [ddIn, h2], (by repeat (first | with_reducible assumption | exact Below.refl _ _ | refine below_drewN ?_ _ | refine Below.drew ?_ | refine Below.alloc ?_ (by first | omega | (simp; done) | (simp; omega)) _ | refine Below.setCell ?_ (by first | omega | (simp; done) | (simp; omega)) _))⟩
    go_enter Tryd.func32, Tryd.ntmps32
    go_wp2_with (go_at_call 45; refine (l1In_any _ _ _ _).mono ?_; rintro e w' ⟨rfl, rfl⟩)
    go_ret
    exact ⟨by simp [ddIn, h2], (by repeat (first | with_reducible assumption | exact Below.refl _ _ | refine below_drewN ?_ _ | refine Below.drew ?_ | refine Below.alloc ?_ (by first | omega | (simp; done) | (simp; omega)) _ | refine Below.setCell ?_ (by first | omega | (simp; done) | (simp; omega)) _))⟩
  have hk : kd = 0 ∨ kd = 1 ∨ kd = 2 ∨ kd = 3 ∨ kd = 4 ∨ kd = 5 := by simp [inB] at h1; omega
  have hE := run_legEq x1 x2 x3 x4 x5 0 0 0 0 0
  rcases hk with rfl | rfl | rfl | rfl | rfl | rfl
  · cases hv : legOk 6 ⟨x1, x2, x3, x4, x5⟩
    · clear hE
      go_enter Tryd.func32, Tryd.ntmps32
      go_wp2_with (first | (go_at_call 45; refine (l1In_any _ _ _ _).mono ?_; rintro e w' ⟨rfl, rfl⟩) | (go_at_call 46; refine (slegValid_any 6 ⟨x1, x2, x3, x4, x5⟩ _).mono ?_; rintro e w' ⟨rfl, hb⟩; rw [hv]))
      go_ret
      exact ⟨by simp [ddIn, hv], Below.trans (by repeat (first | with_reducible assumption | exact Below.refl _ _ | refine below_drewN ?_ _ | refine Below.drew ?_ | refine Below.alloc ?_ (by first | omega | (simp; done) | (simp; omega)) _ | refine Below.setCell ?_ (by first | omega | (simp; done) | (simp; omega)) _)) (hb.mono (by simp))⟩
    · clear hE
      go_enter Tryd.func32, Tryd.ntmps32
      go_wp2_with (first | (go_at_call 45; refine (l1In_any _ _ _ _).mono ?_; rintro e w' ⟨rfl, rfl⟩) | (go_at_call 46; refine (slegValid_any 6 ⟨x1, x2, x3, x4, x5⟩ _).mono ?_; rintro e w' ⟨rfl, hb⟩; rw [hv]))
      go_ret
      exact ⟨by simp [ddIn, h1, h2, hv], Below.trans (by repeat (first | with_reducible assumption | exact Below.refl _ _ | refine below_drewN ?_ _ | refine Below.drew ?_ | refine Below.alloc ?_ (by first | omega | (simp; done) | (simp; omega)) _ | refine Below.setCell ?_ (by first | omega | (simp; done) | (simp; omega)) _)) (hb.mono (by simp))⟩
  · go_enter Tryd.func32, Tryd.ntmps32
    go_wp2_with (first | (go_at_call 45; refine (l1In_any _ _ _ _).mono ?_; rintro e w' ⟨rfl, rfl⟩))
    all_goals
      go_ret
      exact ⟨by simp [ddIn, h1, h2, ← HN.out], (by repeat (first | with_reducible assumption | exact Below.refl _ _ | refine below_drewN ?_ _ | refine Below.drew ?_ | refine Below.alloc ?_ (by first | omega | (simp; done) | (simp; omega)) _ | refine Below.setCell ?_ (by first | omega | (simp; done) | (simp; omega)) _))⟩
  · go_enter Tryd.func32, Tryd.ntmps32
    go_wp2_with (first | (go_at_call 45; refine (l1In_any _ _ _ _).mono ?_; rintro e w' ⟨rfl, rfl⟩))
    all_goals
      go_ret
      exact ⟨by simp [ddIn, h1, h2, ← HN.out], (by repeat (first | with_reducible assumption | exact Below.refl _ _ | refine below_drewN ?_ _ | refine Below.drew ?_ | refine Below.alloc ?_ (by first | omega | (simp; done) | (simp; omega)) _ | refine Below.setCell ?_ (by first | omega | (simp; done) | (simp; omega)) _))⟩
  · cases hv : legOk 6 ⟨x1, x2, x3, x4, x5⟩
    · clear hE
      go_enter Tryd.func32, Tryd.ntmps32
      go_wp2_with (first | (go_at_call 45; refine (l1In_any _ _ _ _).mono ?_; rintro e w' ⟨rfl, rfl⟩) | (go_at_call 46; refine (slegValid_any 6 ⟨x1, x2, x3, x4, x5⟩ _).mono ?_; rintro e w' ⟨rfl, hb⟩; rw [hv]))
      go_ret
      exact ⟨by simp [ddIn, hv], Below.trans (by repeat (first | with_reducible assumption | exact Below.refl _ _ | refine below_drewN ?_ _ | refine Below.drew ?_ | refine Below.alloc ?_ (by first | omega | (simp; done) | (simp; omega)) _ | refine Below.setCell ?_ (by first | omega | (simp; done) | (simp; omega)) _)) (hb.mono (by simp))⟩
    · clear hE
      go_enter Tryd.func32, Tryd.ntmps32
      go_wp2_with (first | (go_at_call 45; refine (l1In_any _ _ _ _).mono ?_; rintro e w' ⟨rfl, rfl⟩) | (go_at_call 46; refine (slegValid_any 6 ⟨x1, x2, x3, x4, x5⟩ _).mono ?_; rintro e w' ⟨rfl, hb⟩; rw [hv]))
      go_ret
      exact ⟨by simp [ddIn, h1, h2, hv], Below.trans (by repeat (first | with_reducible assumption | exact Below.refl _ _ | refine below_drewN ?_ _ | refine Below.drew ?_ | refine Below.alloc ?_ (by first | omega | (simp; done) | (simp; omega)) _ | refine Below.setCell ?_ (by first | omega | (simp; done) | (simp; omega)) _)) (hb.mono (by simp))⟩
  · by_cases hi : ix = 0
    · subst hi
      go_enter Tryd.func32, Tryd.ntmps32
      go_wp2_with (first | (go_at_call 45; refine (l1In_any _ _ _ _).mono ?_; rintro e w' ⟨rfl, rfl⟩))
      all_goals
        go_ret
        exact ⟨by simp [ddIn, h1, h2, ← HN.out], (by repeat (first | with_reducible assumption | exact Below.refl _ _ | refine below_drewN ?_ _ | refine Below.drew ?_ | refine Below.alloc ?_ (by first | omega | (simp; done) | (simp; omega)) _ | refine Below.setCell ?_ (by first | omega | (simp; done) | (simp; omega)) _))⟩
    · go_enter Tryd.func32, Tryd.ntmps32
      go_wp2_with (first | (go_at_call 45; refine (l1In_any _ _ _ _).mono ?_; rintro e w' ⟨rfl, rfl⟩))
      all_goals
        go_ret
        exact ⟨by simp [ddIn, hi], (by repeat (first | with_reducible assumption | exact Below.refl _ _ | refine below_drewN ?_ _ | refine Below.drew ?_ | refine Below.alloc ?_ (by first | omega | (simp; done) | (simp; omega)) _ | refine Below.setCell ?_ (by first | omega | (simp; done) | (simp; omega)) _))⟩
  · by_cases hi : ix = 0
    · subst hi
      go_enter Tryd.func32, Tryd.ntmps32
      go_wp2_with (first | (go_at_call 45; refine (l1In_any _ _ _ _).mono ?_; rintro e w' ⟨rfl, rfl⟩))
      all_goals
        go_ret
        exact ⟨by simp [ddIn, h1, h2, ← HN.out], (by repeat (first | with_reducible assumption | exact Below.refl _ _ | refine below_drewN ?_ _ | refine Below.drew ?_ | refine Below.alloc ?_ (by first | omega | (simp; done) | (simp; omega)) _ | refine Below.setCell ?_ (by first | omega | (simp; done) | (simp; omega)) _))⟩
    · go_enter Tryd.func32, Tryd.ntmps32
      go_wp2_with (first | (go_at_call 45; refine (l1In_any _ _ _ _).mono ?_; rintro e w' ⟨rfl, rfl⟩))
      all_goals
        go_ret
        exact ⟨by simp [ddIn, hi], (by repeat (first | with_reducible assumption | exact Below.refl _ _ | refine below_drewN ?_ _ | refine Below.drew ?_ | refine Below.alloc ?_ (by first | omega | (simp; done) | (simp; omega)) _ | refine Below.setCell ?_ (by first | omega | (simp; done) | (simp; omega)) _))⟩
end Go.Proofs.YtmckkhncbocfhaaDoor

namespace Go.Proofs.YtmckkhncbocfhaaDoor
open Go Go.RowKit Go.Sort

theorem wpList_run_copy {P : Program} (w : World) {ops : Array Oper} {rest : List Oper} {o : Oper} {a : Act} {Q : Exit → Act → World → Prop} (hgd : o.guard = none) (d s : Operand) (t t' : TypeId)
    (ho : o.op = .call { callee := .builtin .copy, args := #[d, s], argTypes := #[t, t'] }) (v u : Value) (hd : a.eval d = v) (hs : a.eval s = u) {v' : Value} {w' : World}
    (hr : (Builtin.copy_ #[t, t'] o.type #[v, u]).run P w = .ok v' w') (h : wpList P ops Q rest (a.put o.dst v') w') : wpList P ops Q (o :: rest) a w := by
  refine wpList_plain hgd fun K hK => ?_
  unfold Oper.wp execOp
  simp only [ho, resolve, invoke, builtin, Sem.run_bind, Sem.run_pure, Result.andThen_ok, List.map_toArray, List.map_cons, List.map_nil, hd, hs, hr]
  exact hK _ _ h
theorem wpList_run_app {P : Program} (w : World) {ops : Array Oper} {rest : List Oper} {o : Oper} {a : Act} {Q : Exit → Act → World → Prop} (hgd : o.guard = none) (d s : Operand) (t t' : TypeId)
    (ho : o.op = .call { callee := .builtin .append, args := #[d, s], argTypes := #[t, t'] }) (v u : Value) (hd : a.eval d = v) (hs : a.eval s = u) {v' : Value} {w' : World}
    (hr : (Builtin.append_ #[t, t'] o.type #[v, u]).run P w = .ok v' w') (h : wpList P ops Q rest (a.put o.dst v') w') : wpList P ops Q (o :: rest) a w := by
  refine wpList_plain hgd fun K hK => ?_
  unfold Oper.wp execOp
  simp only [ho, resolve, invoke, builtin, Sem.run_bind, Sem.run_pure, Result.andThen_ok, List.map_toArray, List.map_cons, List.map_nil, hd, hs, hr]
  exact hK _ _ h
theorem step_run_copy {P : Program} {ops : Array Oper} {o : Oper} {a : Act} {w : World} {K : Act → World → Prop} {Q : Exit → Act → World → Prop} {E : Prop}
    (hg : o.guard = none) (d x : Operand) (dT sT : TypeId) (hop : o.op = Op.call { callee := Callee.builtin Builtin.copy, args := #[d, x], argTypes := #[dT, sT] })
    (v u : Value) (hd : a.eval d = v) (hx : a.eval x = u) {v' : Value} {w' : World} (hr : (Builtin.copy_ #[dT, sT] o.type #[v, u]).run P w = .ok v' w') (hK : K (a.put o.dst v') w') :
    if Region.wanted o (yielded ops a.tmps) = true then Oper.wp P o a w K Q else E := by
  have hw : Region.wanted o (yielded ops a.tmps) = true := by simp [Region.wanted, hg]
  rw [if_pos hw]
  unfold Oper.wp
  simp [execOp, hop, resolve, invoke, builtin, hd, hx, hr, Result.andThen]
  exact hK

/-- what Insert hands back -/
def InsRet (B : Nat) (a : Option Addr) (w : World) (zs : List Lg) (e : Ending) (w' : World) : Prop := ∃ av cv, e = .returned (.slice av zs.length cv) ∧ OwnL w' B (.slice av zs.length cv) zs ∧ w.grownBy w' (Value.slice a 0 0).ownBlock ∧
  ∀ k, (Value.slice av zs.length cv).ownBlock = some k → (Value.slice a 0 0).ownBlock = some k ∨ w.heap.size ≤ k
theorem ownBlock_slice (a : Option Addr) (n c n' c' : Nat) : (Value.slice a n c).ownBlock = (Value.slice a n' c').ownBlock := by cases a <;> rfl
theorem grown_of_below {w w' : World} {row : Option Nat} (h : Below w.heap.size w w') : w.grownBy w' row := ⟨h.os, h.tape, h.output, h.size, fun k hk _ => h.block k hk⟩
theorem setCells_block {g : Nat} : ∀ (vs : List Value) (o : Nat) (w : World), (w.setCells g o vs).os = w.os ∧ (w.setCells g o vs).tape = w.tape ∧ (w.setCells g o vs).output = w.output ∧ (w.setCells g o vs).heap.size = w.heap.size ∧ ∀ k, k ≠ g → (w.setCells g o vs).heap[k]? = w.heap[k]?
  | [], _, _ => ⟨rfl, rfl, rfl, rfl, fun _ _ => rfl⟩
  | v :: r, o, w => by
    rw [World.setCells]
    obtain ⟨h1, h2, h3, h4, h5⟩ := setCells_block (g := g) r (o + 1) (w.setCell ⟨g, o, none⟩ v)
    exact ⟨h1, h2, h3, by rw [h4]; simp [World.setCell], fun k hk => by rw [h5 k hk]; exact Deep.blk_setCell_other _ _ _ _ hk⟩
theorem grown_setCells {w w' : World} {g : Nat} (h : w.grownBy w' (some g)) (o : Nat) (vs : List Value) : w.grownBy (w'.setCells g o vs) (some g) := by
  obtain ⟨h1, h2, h3, h4, h5⟩ := setCells_block (g := g) vs o w'
  exact ⟨h1.trans h.os, h2.trans h.tape, h3.trans h.output, by rw [h4]; exact h.size, fun k hk hn => (h5 k (fun e => hn (by rw [e]))).trans (h.block k hk hn)⟩
theorem grown_drew {w w' : World} {row : Option Nat} (h : w.grownBy w' row) : w.grownBy w'.drew row := ⟨h.os, h.tape, h.output, h.size, h.block⟩

theorem nth_ins (xs : List Lg) (i : Nat) (x : Lg) (hi : i ≤ xs.length) (k : Nat) (hk : k < xs.length + 1) : nth (xs.take i ++ x :: xs.drop i) k = if k < i then nth xs k else if k = i then x else nth xs (k - 1) := by
  have hl : (xs.take i).length = i := by simp; omega
  by_cases h1 : k < i
  · rw [if_pos h1, nth_append_left (by omega), nth_take h1]
  · rw [if_neg h1, nth_append_right (by omega), hl]
    by_cases h2 : k = i
    · subst h2; simp [nth]
    · rw [if_neg h2]
      obtain ⟨m, rfl⟩ : ∃ m, k = i + (m + 1) := ⟨k - i - 1, by omega⟩
      rw [show i + (m + 1) - i = m + 1 by omega]
      show nth (xs.drop i) m = _
      rw [nth_drop]; rfl

theorem zeroLegRun (w : World) : (zeroValue 23).run Tryd.prog w = .ok (.agg #[.int .i64 0, .int .i64 0, .int .i64 0, .int .i64 0, .int .i64 0]) w := Tryd.zeroValue23 w

theorem step_run_app {P : Program} {ops : Array Oper} {o : Oper} {a : Act} {w : World} {K : Act → World → Prop} {Q : Exit → Act → World → Prop} {E : Prop}
    (hg : o.guard = none) (d x : Operand) (dT sT : TypeId) (hop : o.op = Op.call { callee := Callee.builtin Builtin.append, args := #[d, x], argTypes := #[dT, sT] })
    (v u : Value) (hd : a.eval d = v) (hx : a.eval x = u) {v' : Value} {w' : World} (hr : (Builtin.append_ #[dT, sT] o.type #[v, u]).run P w = .ok v' w') (hK : K (a.put o.dst v') w') :
    if Region.wanted o (yielded ops a.tmps) = true then Oper.wp P o a w K Q else E := by
  have hw : Region.wanted o (yielded ops a.tmps) = true := by simp [Region.wanted, hg]
  rw [if_pos hw]
  unfold Oper.wp
  simp [execOp, hop, resolve, invoke, builtin, hd, hx, hr, Result.andThen]
  exact hK

theorem nth_del (xs : List Lg) (i : Nat) (hi : i < xs.length) (k : Nat) (_hk : k < xs.length - 1) : nth (xs.take i ++ xs.drop (i + 1)) k = if k < i then nth xs k else nth xs (k + 1) := by
  have hl : (xs.take i).length = i := by simp; omega
  by_cases h1 : k < i
  · rw [if_pos h1, nth_append_left (by omega), nth_take h1]
  · rw [if_neg h1, nth_append_right (by omega), hl, nth_drop]; congr 1; omega

end Go.Proofs.YtmckkhncbocfhaaDoor
