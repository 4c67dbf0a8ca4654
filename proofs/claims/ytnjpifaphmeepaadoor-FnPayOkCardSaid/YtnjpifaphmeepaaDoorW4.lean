/- Walks: slices.Index, slices.Contains, impl.noTimes, impl.squareOf. -/
import Derived.Test.YtnjpifaphmeepaaDoorOwn
import Derived.Test.YtnjpifaphmeepaaDoorBits
import Derived.Test.YtnjpifaphmeepaaDoorPayF
namespace Go.Proofs.YtnjpifaphmeepaaDoor
open Go Go.RowKit

def idxOf (x : Int) : Nat → List Int → Int
  | _, [] => -1
  | k, y :: l => if x = y then k else idxOf x (k + 1) l
theorem idxOf_ge (x : Int) (l : List Int) : ∀ k, decide (0 ≤ idxOf x k l) = decide (x ∈ l) := by
  induction l with
  | nil => intro k; simp [idxOf]
  | cons y l ih =>
    intro k
    by_cases h : x = y
    · simp [idxOf, h]
    · have := ih (k + 1)
      simp only [idxOf, h, if_false, List.mem_cons, false_or]
      exact this

theorem slicesIndex_any (a : Option Addr) (xs : List Int) (c : Nat) (x : Int) (w : World) (hl : xs.length ≤ 1048576) (hs : Ints w a xs) :
    Calls Tryd.prog 88 #[.slice a xs.length c, .int .i64 x] w fun e w' => e = .returned (.int .i64 (idxOf x 0 xs)) ∧ w = w' := by
  go_enter Tryd.func88, Tryd.ntmps88
  go_wp2
  go_loopw [8] (fun i wr => ∃ k : Nat, k ≤ xs.length ∧ i = .int .i64 k ∧ Hid (idxOf x 0 xs = idxOf x k (xs.drop k)) ∧ w = wr) (fun i _ => xs.length - (intOf i).toNat)
  case atStart => exact ⟨0, by omega, rfl, rfl, rfl⟩
  case round =>
    obtain ⟨k, hk, rfl, HR, rfl⟩ := hrel
    by_cases hlt : k < xs.length
    · obtain ⟨b, off, rfl, hb, hc⟩ := Ints.at hs hlt
      have h1 := hc k hlt
      clear hc hs
      have hd := drop_nth hlt
      have HD := Lib.hid hd
      clear hd
      by_cases hx : x = nth xs k
      · have HX := Lib.hid hx
        have hx' : (x == nth xs k) = true := by simpa using hx
        clear hx
        go_wp2
        go_ret
        exact ⟨by rw [HR.out, HD.out]; simp [idxOf, HX.out], rfl⟩
      · have hx' : (x == nth xs k) = false := by simpa using hx
        go_wp2
        go_roundw
        case rel => exact ⟨k + 1, by omega, by go_num, by show _ = _; rw [HR.out, HD.out]; simp [idxOf, hx], by trivial⟩
        case measure => simp [intOf]; omega
    · go_wp2
      go_ret
      exact ⟨by rw [HR.out, List.drop_eq_nil_of_le (by omega)]; rfl, rfl⟩


theorem slicesContains_any (a : Option Addr) (xs : List Int) (c : Nat) (x : Int) (w : World) (hl : xs.length ≤ 1048576) (hs : Ints w a xs) :
    Calls Tryd.prog 75 #[.slice a xs.length c, .int .i64 x] w fun e w' => e = .returned (.bool (hasZ xs x)) ∧ w = w' := by
  go_enter Tryd.func75, Tryd.ntmps75
  go_wp2_with (go_at_call 88; refine (slicesIndex_any _ _ _ _ _ hl hs).mono ?_; rintro e w' ⟨rfl, rfl⟩)
  go_ret
  exact ⟨by simp [hasZ, idxOf_ge], rfl⟩

theorem noTimes_any (n : Nat) (w : World) (hn : n ≤ 1048576) :
    Calls Tryd.prog 90 #[.int .i64 n] w fun e w' => e = .returned (.slice (some ⟨w.heap.size, 0, none⟩) n n) ∧ OwnI w' w.heap.size n (fun _ => -1) ∧ Below w.heap.size w w' := by
  have hmk := mkInts n (by omega)
  go_enter Tryd.func90, Tryd.ntmps90
  go_wp2
  clear hmk
  go_loopw [9] (fun i wr => ∃ k : Nat, k ≤ n ∧ i = .int .i64 k ∧ OwnI wr w.heap.size n (fun j => if j < k then -1 else 0) ∧ Below w.heap.size w wr) (fun i _ => n - (intOf i).toNat)
  case atStart => exact ⟨0, by omega, rfl, (OwnI.made w n).congr (by simp), (by repeat (first | with_reducible assumption | exact Below.refl _ _ | refine below_drewN ?_ _ | refine Below.drew ?_ | refine Below.alloc ?_ (by first | omega | (simp; done) | (simp; omega)) _ | refine Below.setCell ?_ (by first | omega | (simp; done) | (simp; omega)) _))⟩
  case round =>
    obtain ⟨k, hk, rfl, ho, hb⟩ := hrel
    by_cases hlt : k < n
    · have h1 := ho.cell hlt
      have h2 := ho.frozen k
      go_wp2
      go_roundw
      case rel => exact ⟨k + 1, by omega, by go_num, (OwnI.set ho k (-1)).congr (fun j _ => by by_cases e : j = k <;> simp [e]; congr 1; simp; omega), (by repeat (first | with_reducible assumption | exact Below.refl _ _ | refine below_drewN ?_ _ | refine Below.drew ?_ | refine Below.alloc ?_ (by first | omega | (simp; done) | (simp; omega)) _ | refine Below.setCell ?_ (by first | omega | (simp; done) | (simp; omega)) _))⟩
      case measure => simp [intOf]; omega
    · go_wp2
      go_ret
      exact ⟨rfl, ho.congr (fun j hj => by simp; omega), hb⟩

theorem squareOf_any (n : Nat) (w : World) (hn : n ≤ 1048576) :
    Calls Tryd.prog 89 #[.int .i64 n] w fun e w' => e = .returned (.slice (some ⟨w.heap.size, 0, none⟩) n n) ∧ MatAt w' w.heap.size n (fun _ _ => 0) ∧ Below w.heap.size w w' ∧ w'.heap.size = w.heap.size + 1 + n := by
  have hmk := mkRows n (by omega)
  have hmk2 := mkInts n (by omega)
  go_enter Tryd.func89, Tryd.ntmps89
  go_wp2
  go_loopw [9] (fun i wr => ∃ k : Nat, k ≤ n ∧ i = .int .i64 k ∧ wr.heap.size = w.heap.size + 1 + k ∧ wr.rowIs w.heap.size 26 n (fun i => if i < k then .slice (some ⟨w.heap.size + 1 + i, 0, none⟩) n n else .slice none 0 0) ∧ (∀ i, i < k → OwnI wr (w.heap.size + 1 + i) n (fun _ => 0)) ∧ Below w.heap.size w wr) (fun i _ => n - (intOf i).toNat)
  case atStart => exact ⟨0, by omega, rfl, by simp, (World.rowIs_made w (.slice none 0 0) n 26).congr (by simp), fun i hi => by omega, (by repeat (first | with_reducible assumption | exact Below.refl _ _ | refine below_drewN ?_ _ | refine Below.drew ?_ | refine Below.alloc ?_ (by first | omega | (simp; done) | (simp; omega)) _ | refine Below.setCell ?_ (by first | omega | (simp; done) | (simp; omega)) _))⟩
  case round =>
    obtain ⟨k, hk, rfl, hsz, ho, hi, hb⟩ := hrel
    by_cases hlt : k < n
    · have h1 := ho.cell hlt
      have h2 := ho.frozen k
      have HS := Lib.hid hsz
      clear hsz
      have hlt' : w.heap.size < wr.heap.size := by rw [HS.out]; omega
      go_wp2
      go_roundw
      case rel =>
        refine ⟨k + 1, by omega, by go_num, ?_, ?_, ?_, (by repeat (first | with_reducible assumption | exact Below.refl _ _ | refine below_drewN ?_ _ | refine Below.drew ?_ | refine Below.alloc ?_ (by first | omega | (simp; done) | (simp; omega)) _ | refine Below.setCell ?_ (by first | omega | (simp; done) | (simp; omega)) _))⟩
        · have := HS.out; simp [World.setCell]; omega
        · have e := (World.rowIs.set ho k (.slice (some ⟨wr.heap.size, 0, none⟩) n n)).alloc (.cells (madeCells #[.int .i64 0] n) 3)
          refine e.congr fun j hj => ?_
          by_cases e1 : j = k
          · simp [e1, HS.out]
          · by_cases e2 : j < k
            · simp [e1, e2, show j < k + 1 by omega]
            · simp [e1, e2, show ¬ j < k + 1 by omega]
        · intro i hik
          by_cases e : i = k
          · subst e
            have := OwnI.made (wr.setCell ⟨w.heap.size, i, none⟩ (.slice (some ⟨wr.heap.size, 0, none⟩) n n)) n
            have e : (wr.setCell ⟨w.heap.size, i, none⟩ (.slice (some ⟨wr.heap.size, 0, none⟩) n n)).heap.size = w.heap.size + 1 + i := by simp [World.setCell, HS.out]
            rw [e] at this
            exact this
          · exact (World.rowIs.setOther (hi i (by omega)) (a := ⟨w.heap.size, k, none⟩) (by simp; omega) _).alloc _
      case measure => simp [intOf]; omega
    · go_wp2
      go_ret
      refine ⟨rfl, ⟨ho.congr (fun j hj => by rw [if_pos (by omega)]), fun i h => hi i (by omega)⟩, hb, by omega⟩
end Go.Proofs.YtnjpifaphmeepaaDoor
