/- Walks: legs and surveys are valid (impl and spec). -/
import Derived.Test.YtgggbapcpjfljaaGreatDoorProg
import Derived.Test.YtgggbapcpjfljaaGreatDoorBkF
import Derived.Lib.QuietBelow
namespace Go.Proofs.YtgggbapcpjfljaaGreatDoor
open Go Go.RowKit Go.Sort

theorem isIndex_any (n m : Int) (w : World) :
    Calls Tryz.prog 44 #[.int .i64 n, .int .i64 m] w fun e w' => e = .returned (.bool (isIdx n m)) ∧ w = w' := by
  by_cases h : 0 ≤ n
  · go_enter Tryz.func44, Tryz.ntmps44
    go_wp2
    go_ret
    exact ⟨by simp [isIdx, h], rfl⟩
  · have h' : decide (0 ≤ n) = false := by simpa using h
    have H := Lib.hid h'
    clear h'
    go_enter Tryz.func44, Tryz.ntmps44
    go_wp2
    go_ret
    exact ⟨by simp only [isIdx, H.out]; rfl, rfl⟩

theorem isWithin_any (n m : Int) (w : World) (hm : 0 ≤ m) (hm' : m ≤ 1000000) :
    Calls Tryz.prog 94 #[.int .i64 n, .int .i64 m] w fun e w' => e = .returned (.bool (isIn n m)) ∧ w = w' := by
  by_cases h : -m ≤ n
  · go_enter Tryz.func94, Tryz.ntmps94
    go_wp2
    go_ret
    exact ⟨by simp [isIn, h], rfl⟩
  · have h' : decide (-m ≤ n) = false := by simpa using h
    have H := Lib.hid h'
    clear h'
    go_enter Tryz.func94, Tryz.ntmps94
    go_wp2
    go_ret
    exact ⟨by simp only [isIn, H.out]; rfl, rfl⟩

theorem stepFits_any (n : Int) (w : World) :
    Calls Tryz.prog 83 #[.int .i64 n] w fun e w' => e = .returned (.bool (isIn n 99)) ∧ w = w' := by
  go_enter Tryz.func83, Tryz.ntmps83
  go_wp2_with (go_at_call 94; refine (isWithin_any _ _ _ (by omega) (by omega)).mono ?_; rintro e w' ⟨rfl, rfl⟩)
  go_ret
  exact ⟨rfl, rfl⟩

theorem legValid_any (n : Int) (g : Lg) (w : World) :
    Calls Tryz.prog 64 #[.int .i64 n, g.val] w fun e w' => e = .returned (.bool (legOk n g)) ∧ Below w.heap.size w w' := by
  obtain ⟨x1, x2, x3, x4, x5⟩ := g
  show Calls Tryz.prog 64 #[.int .i64 n, .agg #[.int .i64 x1, .int .i64 x2, .int .i64 x3, .int .i64 x4, .int .i64 x5]] w _
  by_cases h1 : n < 1
  · go_enter Tryz.func64, Tryz.ntmps64
    go_wp2
    go_ret
    exact ⟨by simp [legOk, h1], (by repeat (first | with_reducible assumption | exact Below.refl _ _ | refine below_drewN ?_ _ | refine Below.drew ?_ | refine Below.alloc ?_ (by first | omega | (simp; done) | (simp; omega)) _ | refine Below.setCell ?_ (by first | omega | (simp; done) | (simp; omega)) _))⟩
  by_cases h2 : 6 < n
  · go_enter Tryz.func64, Tryz.ntmps64
    go_wp2
    go_ret
    exact ⟨by simp [legOk, h2], (by repeat (first | with_reducible assumption | exact Below.refl _ _ | refine below_drewN ?_ _ | refine Below.drew ?_ | refine Below.alloc ?_ (by first | omega | (simp; done) | (simp; omega)) _ | refine Below.setCell ?_ (by first | omega | (simp; done) | (simp; omega)) _))⟩
  cases h3 : isIdx x1 n
  · go_enter Tryz.func64, Tryz.ntmps64
    go_wp2_with (go_at_call 44; refine (isIndex_any _ _ _).mono ?_; rintro e w' ⟨rfl, rfl⟩)
    go_ret
    exact ⟨by simp [legOk, h3], (by repeat (first | with_reducible assumption | exact Below.refl _ _ | refine below_drewN ?_ _ | refine Below.drew ?_ | refine Below.alloc ?_ (by first | omega | (simp; done) | (simp; omega)) _ | refine Below.setCell ?_ (by first | omega | (simp; done) | (simp; omega)) _))⟩
  cases h4 : isIdx x2 n
  · go_enter Tryz.func64, Tryz.ntmps64
    go_wp2_with (go_at_call 44; refine (isIndex_any _ _ _).mono ?_; rintro e w' ⟨rfl, rfl⟩)
    go_ret
    exact ⟨by simp [legOk, h4], (by repeat (first | with_reducible assumption | exact Below.refl _ _ | refine below_drewN ?_ _ | refine Below.drew ?_ | refine Below.alloc ?_ (by first | omega | (simp; done) | (simp; omega)) _ | refine Below.setCell ?_ (by first | omega | (simp; done) | (simp; omega)) _))⟩
  by_cases h5 : x1 = x2
  · subst h5
    go_enter Tryz.func64, Tryz.ntmps64
    go_wp2_with (go_at_call 44; refine (isIndex_any _ _ _).mono ?_; rintro e w' ⟨rfl, rfl⟩)
    go_ret
    exact ⟨by simp [legOk], (by repeat (first | with_reducible assumption | exact Below.refl _ _ | refine below_drewN ?_ _ | refine Below.drew ?_ | refine Below.alloc ?_ (by first | omega | (simp; done) | (simp; omega)) _ | refine Below.setCell ?_ (by first | omega | (simp; done) | (simp; omega)) _))⟩
  cases h6 : isIn x3 99
  · go_enter Tryz.func64, Tryz.ntmps64
    go_wp2_with (first | (go_at_call 44; refine (isIndex_any _ _ _).mono ?_; rintro e w' ⟨rfl, rfl⟩) | (go_at_call 83; refine (stepFits_any _ _).mono ?_; rintro e w' ⟨rfl, rfl⟩))
    go_ret
    exact ⟨by simp [legOk, h6], (by repeat (first | with_reducible assumption | exact Below.refl _ _ | refine below_drewN ?_ _ | refine Below.drew ?_ | refine Below.alloc ?_ (by first | omega | (simp; done) | (simp; omega)) _ | refine Below.setCell ?_ (by first | omega | (simp; done) | (simp; omega)) _))⟩
  cases h7 : isIn x4 99
  · go_enter Tryz.func64, Tryz.ntmps64
    go_wp2_with (first | (go_at_call 44; refine (isIndex_any _ _ _).mono ?_; rintro e w' ⟨rfl, rfl⟩) | (go_at_call 83; refine (stepFits_any _ _).mono ?_; rintro e w' ⟨rfl, rfl⟩))
    go_ret
    exact ⟨by simp [legOk, h7], (by repeat (first | with_reducible assumption | exact Below.refl _ _ | refine below_drewN ?_ _ | refine Below.drew ?_ | refine Below.alloc ?_ (by first | omega | (simp; done) | (simp; omega)) _ | refine Below.setCell ?_ (by first | omega | (simp; done) | (simp; omega)) _))⟩
  · have hL : legOk n ⟨x1, x2, x3, x4, x5⟩ = isIn x5 99 := by simp [legOk, h1, h2, h3, h4, h5, h6, h7]
    have HL := Lib.hid hL
    clear hL
    go_enter Tryz.func64, Tryz.ntmps64
    go_wp2_with (first | (go_at_call 44; refine (isIndex_any _ _ _).mono ?_; rintro e w' ⟨rfl, rfl⟩) | (go_at_call 83; refine (stepFits_any _ _).mono ?_; rintro e w' ⟨rfl, rfl⟩))
    go_ret
    exact ⟨by rw [HL.out]; rfl, (by repeat (first | with_reducible assumption | exact Below.refl _ _ | refine below_drewN ?_ _ | refine Below.drew ?_ | refine Below.alloc ?_ (by first | omega | (simp; done) | (simp; omega)) _ | refine Below.setCell ?_ (by first | omega | (simp; done) | (simp; omega)) _))⟩

theorem surveyValid_any (a : Option Addr) (c : Nat) (n : Int) (l : List Lg) (w : World) (hl : l.length ≤ 1048576) (hs : Legs w a l) :
    Calls Tryz.prog 42 #[.agg #[.int .i64 n, .slice a l.length c]] w fun e w' => e = .returned (.bool (svOk ⟨n, l⟩)) ∧ Below w.heap.size w w' := by
  by_cases h1 : n < 1
  · go_enter Tryz.func42, Tryz.ntmps42
    go_wp2
    go_ret
    exact ⟨by simp [svOk, h1], (by repeat (first | with_reducible assumption | exact Below.refl _ _ | refine below_drewN ?_ _ | refine Below.drew ?_ | refine Below.alloc ?_ (by first | omega | (simp; done) | (simp; omega)) _ | refine Below.setCell ?_ (by first | omega | (simp; done) | (simp; omega)) _))⟩
  by_cases h2 : 6 < n
  · go_enter Tryz.func42, Tryz.ntmps42
    go_wp2
    go_ret
    exact ⟨by simp [svOk, h2], (by repeat (first | with_reducible assumption | exact Below.refl _ _ | refine below_drewN ?_ _ | refine Below.drew ?_ | refine Below.alloc ?_ (by first | omega | (simp; done) | (simp; omega)) _ | refine Below.setCell ?_ (by first | omega | (simp; done) | (simp; omega)) _))⟩
  by_cases h3 : l.length ≤ 9
  · have hp : svOk ⟨n, l⟩ = legsOk n l := by simp [svOk, h1, h2, h3]
    have HP := Lib.hid hp
    clear hp
    go_enter Tryz.func42, Tryz.ntmps42
    go_wp2_with fail
    go_loopw [22] (fun i wr => ∃ k : Nat, k ≤ l.length ∧ i = .int .i64 k ∧ Hid (legsOk n l = legsOk n (l.drop k)) ∧ Below (w.heap.size + 1) (w.alloc (.cells #[.int .i64 n, .slice a l.length c] 24)) wr) (fun i _ => l.length - (intOf i).toNat)
    case atStart => exact ⟨0, by omega, rfl, rfl, by first | exact Below.refl _ _ | exact (Below.refl _ _)⟩
    case round =>
      obtain ⟨k, hk, rfl, HR, hb⟩ := hrel
      have hz : w.heap.size < wr.heap.size := by have := hb.size; simp at this; omega
      have hbw : Below w.heap.size w wr := ((Below.refl w.heap.size w).alloc (Nat.le_refl _) _).trans (hb.mono (by omega))
      have c0 : wr.cell? ⟨w.heap.size, 0, none⟩ = some (.int .i64 n) := by rw [hb.cell (p := ⟨w.heap.size, 0, none⟩) (by simp)]; simp
      by_cases hlt : k < l.length
      · obtain ⟨b, off, rfl, hbz, e1, e2, e3, e4, e5⟩ := Legs.at (hs.below hbw) hlt
        clear hs
        have HD := Lib.hid (legsOk_drop (n := n) hlt)
        cases hx : legOk n (nth l k)
        · go_wp2_with (go_at_call 64; refine (legValid_any n (nth l k) _).mono ?_; rintro e w' ⟨rfl, hb2⟩)
          go_ret
          refine ⟨by rw [HP.out, HR.out, HD.out]; simp [hx], (hbw.alloc (by omega) _).trans (hb2.mono (by simp; omega))⟩
        · go_wp2_with (go_at_call 64; refine (legValid_any n (nth l k) _).mono ?_; rintro e w' ⟨rfl, hb2⟩)
          go_roundw
          case rel => exact ⟨k + 1, by omega, by go_num, by show _ = _; rw [HR.out, HD.out]; simp [hx], (hb.alloc (by omega) _).trans (hb2.mono (by simp; omega))⟩
          case measure => simp [intOf]; omega
      · go_wp2
        go_ret
        exact ⟨by rw [HP.out, HR.out, List.drop_eq_nil_of_le (by omega)]; rfl, hbw⟩
  · go_enter Tryz.func42, Tryz.ntmps42
    go_wp2
    go_ret
    exact ⟨by simp [svOk, h3], (by repeat (first | with_reducible assumption | exact Below.refl _ _ | refine below_drewN ?_ _ | refine Below.drew ?_ | refine Below.alloc ?_ (by first | omega | (simp; done) | (simp; omega)) _ | refine Below.setCell ?_ (by first | omega | (simp; done) | (simp; omega)) _))⟩
end Go.Proofs.YtgggbapcpjfljaaGreatDoor
