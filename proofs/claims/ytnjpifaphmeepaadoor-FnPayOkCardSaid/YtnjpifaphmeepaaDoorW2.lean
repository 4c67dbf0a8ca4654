/- Walks: impl.PitValid. -/
import Derived.Test.YtnjpifaphmeepaaDoorW1
import Derived.Test.YtnjpifaphmeepaaDoorPit
namespace Go.Proofs.YtnjpifaphmeepaaDoor
open Go Go.RowKit

def ascB : List Int → Bool
  | x :: y :: l => decide (x < y) && ascB (y :: l)
  | _ => true
def blkOk (i : Nat) (b : Blk) : Bool := isIn b.worth 20 && areIdx b.needs i && ascB b.needs
def blksOk : Nat → List Blk → Bool
  | _, [] => true
  | i, b :: l => blkOk i b && blksOk (i + 1) l
def pitOk (bs : List Blk) : Bool := decide (bs.length ≤ 8) && blksOk 0 bs

theorem ascB_step {l : List Int} {j : Nat} (h : j < l.length) (h1 : 1 ≤ j) : ascB (l.drop (j - 1)) = (decide (nth l (j - 1) < nth l j) && ascB (l.drop j)) := by
  rw [drop_nth (k := j - 1) (by omega), show j - 1 + 1 = j by omega, drop_nth h]
  rfl
theorem ascB_end {l : List Int} {j : Nat} (h : l.length ≤ j) : ascB (l.drop (j - 1)) = true := by
  by_cases e : j - 1 < l.length
  · rw [drop_nth e, List.drop_eq_nil_of_le (by omega)]; rfl
  · rw [List.drop_eq_nil_of_le (by omega)]; rfl

theorem pitValid_any (a : Option Addr) (c : Nat) (bs : List Blk) (w : World) (hl : bs.length ≤ 1048576) (hs : Pit w a bs) :
    Calls Tryd.prog 18 #[.slice a bs.length c] w fun e w' => e = .returned (.bool (pitOk bs)) ∧ Below w.heap.size w w' := by
  by_cases hn : bs.length ≤ 8
  · have hn' : ¬ 8 < bs.length := by omega
    have hp : pitOk bs = blksOk 0 bs := by simp [pitOk, hn]
    have HP := Lib.hid hp
    clear hp
    go_enter Tryd.func18, Tryd.ntmps18
    go_wp2_with fail
    go_loopw [11] (fun i wr => ∃ k : Nat, k ≤ bs.length ∧ i = .int .i64 k ∧ Hid (blksOk 0 bs = blksOk k (bs.drop k)) ∧ Below w.heap.size w wr) (fun i _ => bs.length - (intOf i).toNat)
    case atStart => exact ⟨0, by omega, rfl, rfl, Below.refl _ _⟩
    case round =>
      obtain ⟨k, hk, rfl, HR, hb⟩ := hrel
      by_cases hlt : k < bs.length
      · have hz := hb.size
        obtain ⟨b, off, A, C, rfl, hbw, h1, h2, h3, h4, h5, h6⟩ := Pit.at (hs.below hb) hlt
        clear hs
        have hd := drop_nth hlt
        have HD := Lib.hid hd
        clear hd
        have h6' := h6.alloc (.cells #[.int .i64 (nth bs k).worth, .slice A (nth bs k).needs.length C] 28)
        cases hx : isIn (nth bs k).worth 20
        · go_wp2_with (go_at_call 66; refine (isWithin_any _ _ _ (by omega) (by omega)).mono ?_; rintro e w' ⟨rfl, rfl⟩)
          go_ret
          exact ⟨by rw [HP.out, HR.out, HD.out]; simp [blksOk, blkOk, hx], hb.alloc hz _⟩
        cases hy : areIdx (nth bs k).needs k
        · go_wp2_with (first | (go_at_call 66; refine (isWithin_any _ _ _ (by omega) (by omega)).mono ?_; rintro e w' ⟨rfl, rfl⟩) | (go_at_call 67; refine (areIndices_any _ _ _ _ _ h3 h6').mono ?_; rintro e w' ⟨rfl, rfl⟩))
          go_ret
          exact ⟨by rw [HP.out, HR.out, HD.out]; simp [blksOk, blkOk, hx, hy], hb.alloc hz _⟩
        go_wp2_with (first | (go_at_call 66; refine (isWithin_any _ _ _ (by omega) (by omega)).mono ?_; rintro e w' ⟨rfl, rfl⟩) | (go_at_call 67; refine (areIndices_any _ _ _ _ _ h3 h6').mono ?_; rintro e w' ⟨rfl, rfl⟩))
        clear h1 h2 h6'
        go_loopw [5] (fun i wi => ∃ j : Nat, 1 ≤ j ∧ j ≤ 1048576 ∧ i = .int .i64 j ∧ Hid (ascB (nth bs k).needs = ascB ((nth bs k).needs.drop (j - 1))) ∧ ∃ q, wi = World.drewN (wr.alloc (.cells #[.int .i64 (nth bs k).worth, .slice A (nth bs k).needs.length C] 28)) q) (fun i _ => (nth bs k).needs.length - (intOf i).toNat)
        case atStart => exact ⟨1, by omega, by omega, rfl, rfl, 0, rfl⟩
        case round =>
          obtain ⟨j, hj1, hj, rfl, HA, q, rfl⟩ := hrel
          by_cases hlt : j < (nth bs k).needs.length
          · obtain ⟨b', off', rfl, hb', hc⟩ := Ints.at h6 hlt
            have c1 := hc j hlt
            have c2 := hc (j - 1) (by omega)
            go_wp2
            go_quiet (fail)
            go_wp2
            · go_ret
              have hle : nth (nth bs k).needs j ≤ nth (nth bs k).needs (j - 1) := by assumption
              refine ⟨?_, ?_⟩
              · have : ascB (nth bs k).needs = false := by rw [HA.out, ascB_step hlt hj1]; simp; omega
                rw [HP.out, HR.out, HD.out]; simp [blksOk, blkOk, hx, hy, this]
              · exact (by repeat (first | with_reducible assumption | exact Below.refl _ _ | refine below_drewN ?_ _ | refine Below.drew ?_ | refine Below.alloc ?_ (by first | omega | (simp; done) | (simp; omega)) _ | refine Below.setCell ?_ (by first | omega | (simp; done) | (simp; omega)) _))
            · go_roundw
              case rel =>
                have hle : nth (nth bs k).needs (j - 1) < nth (nth bs k).needs j := by assumption
                refine ⟨j + 1, by omega, by omega, by go_num, ?_, ?_⟩
                · show _ = _
                  rw [HA.out, ascB_step hlt hj1]; simp [hle]
                · exact ⟨_, rfl⟩
              case measure => simp [intOf]; omega
          · go_wp2
            go_roundw
            case rel =>
              refine ⟨k + 1, by omega, by go_num, ?_, ?_⟩
              · show _ = _
                have : ascB (nth bs k).needs = true := by rw [HA.out, ascB_end (by omega)]
                rw [HR.out, HD.out]; simp [blksOk, blkOk, hx, hy, this]
              · exact (by repeat (first | with_reducible assumption | exact Below.refl _ _ | refine below_drewN ?_ _ | refine Below.drew ?_ | refine Below.alloc ?_ (by first | omega | (simp; done) | (simp; omega)) _ | refine Below.setCell ?_ (by first | omega | (simp; done) | (simp; omega)) _))
            case measure => simp [intOf]; omega
      · go_wp2
        go_ret
        exact ⟨by rw [HP.out, HR.out, List.drop_eq_nil_of_le (by omega)]; rfl, hb⟩
  · have hn' : 8 < bs.length := by omega
    go_enter Tryd.func18, Tryd.ntmps18
    go_wp2
    go_ret
    exact ⟨by simp [pitOk, hn], Below.refl _ _⟩
end Go.Proofs.YtnjpifaphmeepaaDoor
