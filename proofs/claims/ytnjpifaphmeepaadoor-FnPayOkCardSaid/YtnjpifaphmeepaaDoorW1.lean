/- Walks: pits are valid (impl.PitValid and what it calls). -/
import Derived.Test.YtnjpifaphmeepaaDoorProg
import Derived.Test.YtnjpifaphmeepaaDoorMem
namespace Go.Proofs.YtnjpifaphmeepaaDoor
open Go Go.RowKit

def isIdx (n m : Int) : Bool := decide (0 ≤ n) && decide (n < m)
def isIn (n m : Int) : Bool := decide (-m ≤ n) && decide (n ≤ m)

theorem isIndex_any (n m : Int) (w : World) :
    Calls Tryd.prog 83 #[.int .i64 n, .int .i64 m] w fun e w' => e = .returned (.bool (isIdx n m)) ∧ w = w' := by
  by_cases h : 0 ≤ n
  · go_enter Tryd.func83, Tryd.ntmps83
    go_wp2
    go_ret
    exact ⟨by simp [isIdx, h], rfl⟩
  · have h' : decide (0 ≤ n) = false := by simpa using h
    have H := Lib.hid h'
    clear h'
    go_enter Tryd.func83, Tryd.ntmps83
    go_wp2
    go_ret
    exact ⟨by simp only [isIdx, H.out]; rfl, rfl⟩

theorem isWithin_any (n m : Int) (w : World) (hm : 0 ≤ m) (hm' : m ≤ 1000000) :
    Calls Tryd.prog 66 #[.int .i64 n, .int .i64 m] w fun e w' => e = .returned (.bool (isIn n m)) ∧ w = w' := by
  by_cases h : -m ≤ n
  · go_enter Tryd.func66, Tryd.ntmps66
    go_wp2
    go_ret
    exact ⟨by simp [isIn, h], rfl⟩
  · have h' : decide (-m ≤ n) = false := by simpa using h
    have H := Lib.hid h'
    clear h'
    go_enter Tryd.func66, Tryd.ntmps66
    go_wp2
    go_ret
    exact ⟨by simp only [isIn, H.out]; rfl, rfl⟩

def areIdx (l : List Int) (m : Int) : Bool := l.all fun x => isIdx x m

theorem areIndices_any (a : Option Addr) (xs : List Int) (c : Nat) (m : Int) (w : World) (hl : xs.length ≤ 1048576) (hs : Ints w a xs) :
    Calls Tryd.prog 67 #[.slice a xs.length c, .int .i64 m] w fun e w' => e = .returned (.bool (areIdx xs m)) ∧ w = w' := by
  go_enter Tryd.func67, Tryd.ntmps67
  go_wp2
  go_loopw [9] (fun i wr => ∃ k : Nat, k ≤ xs.length ∧ i = .int .i64 k ∧ Hid (areIdx xs m = areIdx (xs.drop k) m ∧ w = wr)) (fun i _ => xs.length - (intOf i).toNat)
  case atStart => exact ⟨0, by omega, rfl, rfl, rfl⟩
  case round =>
    obtain ⟨k, hk, rfl, hr, rfl⟩ := hrel
    have HR := Lib.hid hr
    clear hr
    by_cases hlt : k < xs.length
    · obtain ⟨b, off, rfl, hb, hc⟩ := Ints.at hs hlt
      have h1 := hc k hlt
      clear hc hs
      have hd := drop_nth hlt
      have HD := Lib.hid hd
      clear hd
      cases hx : isIdx (nth xs k) m
      · go_wp2_with (go_at_call 83; refine (isIndex_any _ _ _).mono ?_; rintro e w' ⟨rfl, rfl⟩)
        go_ret
        exact ⟨by rw [HR.out, HD.out]; simp [areIdx, hx], by trivial⟩
      · go_wp2_with (go_at_call 83; refine (isIndex_any _ _ _).mono ?_; rintro e w' ⟨rfl, rfl⟩)
        go_roundw
        case rel => exact ⟨k + 1, by omega, by go_num, by rw [HR.out, HD.out]; simp [areIdx, hx], by trivial⟩
        case measure => simp [intOf]; omega
    · go_wp2
      go_ret
      exact ⟨by rw [HR.out, List.drop_eq_nil_of_le (by omega)]; rfl, rfl⟩
end Go.Proofs.YtnjpifaphmeepaaDoor
