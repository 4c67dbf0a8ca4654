/- Walks: PitDirect of impl and of spec. -/
import Derived.Test.YtnjpifaphmeepaaDoorW11
import Derived.Test.YtnjpifaphmeepaaDoorW4
namespace Go.Proofs.YtnjpifaphmeepaaDoor
open Go Go.RowKit

/-- block k needs all that what it needs needs -/
def DirK (bs : List Blk) (k : Nat) : Prop := ∀ j, j < (nth bs k).needs.length → ∀ i, i < (nth bs (nth (nth bs k).needs j).toNat).needs.length → hasZ (nth bs k).needs (nth (nth bs (nth (nth bs k).needs j).toNat).needs i) = true
open Classical in
noncomputable def directF (bs : List Blk) : Bool := pitOk bs && decide (∀ k, k < bs.length → DirK bs k)
open Classical in
theorem directF_no {bs : List Blk} {k j i : Nat} (hk : k < bs.length) (hj : j < (nth bs k).needs.length) (hi : i < (nth bs (nth (nth bs k).needs j).toNat).needs.length) (h : hasZ (nth bs k).needs (nth (nth bs (nth (nth bs k).needs j).toNat).needs i) = false) : directF bs = false := by
  unfold directF
  rw [Bool.and_eq_false_iff]; right
  refine decide_eq_false fun hh => ?_
  have := hh k hk j hj i hi
  rw [h] at this; cases this
open Classical in
theorem directF_yes {bs : List Blk} (hp : pitOk bs = true) (h : ∀ k, k < bs.length → DirK bs k) : directF bs = true := by
  unfold directF; rw [hp, Bool.true_and]; exact decide_eq_true h
theorem directF_bad {bs : List Blk} (hp : pitOk bs = false) : directF bs = false := by unfold directF; rw [hp]; rfl

set_option maxHeartbeats 1000000 in
theorem pitDirect_any (a : Option Addr) (c : Nat) (bs : List Blk) (w : World) (hl : bs.length ≤ 1048576) (hs : Pit w a bs) :
    Calls Tryd.prog 50 #[.slice a bs.length c] w fun e w' => e = .returned (.bool (directF bs)) ∧ Below w.heap.size w w' := by
  cases hp : pitOk bs
  · have HD := Lib.hid (directF_bad hp)
    go_enter Tryd.func50, Tryd.ntmps50
    go_wp2_with (go_at_call 18; refine (pitValid_any _ _ _ _ hl hs).mono ?_; rintro e w' ⟨rfl, hb⟩)
    go_ret
    exact ⟨by rw [HD.out]; rfl, hb⟩
  have hl8 := pitOk_len hp
  have HNO : Hid (∀ k j i, k < bs.length → j < (nth bs k).needs.length → i < (nth bs (nth (nth bs k).needs j).toNat).needs.length → hasZ (nth bs k).needs (nth (nth bs (nth (nth bs k).needs j).toNat).needs i) = false → directF bs = false) := fun k j i h1 h2 h3 h4 => directF_no h1 h2 h3 h4
  have HYES : Hid ((∀ k, k < bs.length → DirK bs k) → directF bs = true) := directF_yes hp
  have HND : Hid (∀ k, k < bs.length → ∀ j, j < (nth bs k).needs.length → ∃ y : Nat, nth (nth bs k).needs j = (y : Int) ∧ y < k) := fun k hk j hj => pitOk_need hp hk hj
  go_enter Tryd.func50, Tryd.ntmps50
  go_wp2_with (go_at_call 18; refine (pitValid_any _ _ _ _ hl hs).mono ?_; rintro e w1 ⟨rfl, hb0⟩)
  go_loopw [14] (fun i wr => ∃ (k : Nat), k ≤ bs.length ∧ i = .int .i64 k ∧ Hid (∀ q, q < k → DirK bs q) ∧ Below w.heap.size w wr) (fun i _ => bs.length - (intOf i).toNat)
  case atStart => exact ⟨0, by omega, rfl, fun q hq => by omega, hb0⟩
  case round =>
    obtain ⟨k, hk, rfl, HR, hb⟩ := hrel
    by_cases hlt : k < bs.length
    · have hz := hb.size
      obtain ⟨b, off, A, C, rfl, hbw, h1, h2, h3, h4, h5, h6⟩ := Pit.at (hs.below hb) hlt
      go_wp2_with fail
      obtain ⟨W, hW⟩ : ∃ W, W = wr.alloc (.cells #[.int .i64 (nth bs k).worth, .slice A (nth bs k).needs.length C] 28) := ⟨_, rfl⟩
      have bW : Below wr.heap.size wr W := by rw [hW]; exact (by repeat (first | with_reducible assumption | exact Below.refl _ _ | refine below_drewN ?_ _ | refine Below.drew ?_ | refine Below.alloc ?_ (by first | omega | (simp; done) | (simp; omega)) _ | refine Below.setCell ?_ (by first | omega | (simp; done) | (simp; omega)) _))
      have x2 : W.cell? ⟨wr.heap.size, 1, none⟩ = some (.slice A (nth bs k).needs.length C) := by rw [hW]; simp
      rw [← hW]
      have hpW := (hs.below hb).below bW
      have h6W := h6.below bW
      have hbW := hb.trans (bW.mono hb.size)
      clear hW bW h1 h2 h6
      generalize wr.heap.size = X at x2 hz ⊢
      go_loopw [21] (fun jv wj => ∃ (j : Nat), j ≤ (nth bs k).needs.length ∧ jv = .int .i64 j ∧ Hid (∀ q, q < j → ∀ i, i < (nth bs (nth (nth bs k).needs q).toNat).needs.length → hasZ (nth bs k).needs (nth (nth bs (nth (nth bs k).needs q).toNat).needs i) = true) ∧ wj = W) (fun jv _ => (nth bs k).needs.length - (intOf jv).toNat)
      case atStart => exact ⟨0, by omega, rfl, fun q hq => by omega, rfl⟩
      case round =>
        obtain ⟨j, hj, rfl, HJ, rfl⟩ := hrel
        by_cases hlt2 : j < (nth bs k).needs.length
        · obtain ⟨b', off', rfl, hb', hc⟩ := Ints.at h6W hlt2
          obtain ⟨y, hy, hyk⟩ := HND.out k hlt j hlt2
          have c1 := hc j hlt2
          rw [hy] at c1
          have hyb : y < bs.length := by omega
          obtain ⟨b2, off2, A2, C2, e2, hbw2, g1, g2, g3, g4, g5, g6⟩ := Pit.at hpW hyb
          cases e2
          have HY : Hid ((nth (nth bs k).needs j).toNat = y) := by show _ = _; rw [hy]; simp
          clear hc hy g1
          go_wp2_with fail
          go_loopw [31] (fun ii wi => ∃ (i : Nat), i ≤ (nth bs y).needs.length ∧ ii = .int .i64 i ∧ Hid (∀ q, q < i → hasZ (nth bs k).needs (nth (nth bs y).needs q) = true) ∧ wi = wr) (fun ii _ => (nth bs y).needs.length - (intOf ii).toNat)
          case atStart => exact ⟨0, by omega, rfl, fun q hq => by omega, rfl⟩
          case round =>
            obtain ⟨i, hi, rfl, HI, rfl⟩ := hrel
            by_cases hlt3 : i < (nth bs y).needs.length
            · obtain ⟨b3, off3, rfl, hb3, hc⟩ := Ints.at g6 hlt3
              have c2 := hc i hlt3
              clear hc
              cases hh : hasZ (nth bs k).needs (nth (nth bs y).needs i)
              · have HNO2 := Lib.hid (HNO.out k j i hlt hlt2 (by rw [HY.out]; exact hlt3) (by rw [HY.out]; exact hh))
                go_wp2_with fail
                refine (slicesContains_any _ _ _ _ _ h3 h6W).mono ?_
                rintro e w' ⟨rfl, rfl⟩
                rw [hh]
                go_wp2_with fail
                go_ret
                exact ⟨by rw [HNO2.out]; rfl, hbW⟩
              · have HH := Lib.hid hh
                go_wp2_with fail
                refine (slicesContains_any _ _ _ _ _ h3 h6W).mono ?_
                rintro e w' ⟨rfl, rfl⟩
                rw [hh]
                go_wp2_with fail
                go_roundw
                case rel =>
                  refine ⟨i + 1, by omega, by go_num, fun q hq => ?_, by trivial⟩
                  by_cases e : q = i
                  · rw [e]; exact HH.out
                  · exact HI.out q (by omega)
                case measure => simp [intOf] <;> omega
            · have HJN : Hid (∀ q, q < j + 1 → ∀ i, i < (nth bs (nth (nth bs k).needs q).toNat).needs.length → hasZ (nth bs k).needs (nth (nth bs (nth (nth bs k).needs q).toNat).needs i) = true) := fun q hq p hp => by
                by_cases e : q = j
                · subst e; rw [HY.out] at hp ⊢; exact HI.out p (by omega)
                · exact HJ.out q (by omega) p hp
              go_wp2_with fail
              go_roundw
              case rel => exact ⟨j + 1, by omega, by go_num, HJN, by trivial⟩
              case measure => simp [intOf] <;> omega
        · have HRN : Hid (∀ q, q < k + 1 → DirK bs q) := fun q hq => by
            by_cases e : q = k
            · subst e; exact fun p hp => HJ.out p (by omega)
            · exact HR.out q (by omega)
          go_wp2_with fail
          go_roundw
          case rel => exact ⟨k + 1, by omega, by go_num, HRN, hbW⟩
          case measure => simp [intOf] <;> omega
    · have HY := Lib.hid (HYES.out fun q hq => HR.out q (by omega))
      go_wp2_with fail
      go_ret
      exact ⟨by rw [HY.out]; rfl, hb⟩

set_option maxHeartbeats 1000000 in
theorem sDirect_any (a : Option Addr) (c : Nat) (bs : List Blk) (w : World) (hl : bs.length ≤ 1048576) (hs : Pit w a bs) :
    Calls Tryd.prog 51 #[.slice a bs.length c] w fun e w' => e = .returned (.bool (directF bs)) ∧ ∃ q, w' = w.drewN q := by
  have sub : ∀ q, Pit (w.drewN q) a bs := fun q => hs.below (below_drewN (Below.refl _ _) q)
  cases hp : pitOk bs
  · have HD := Lib.hid (directF_bad hp)
    go_enter Tryd.func51, Tryd.ntmps51
    go_wp2_with fail
    go_loopw [3] (fun i wr => i = .int .i64 0 ∧ wr = w) (fun i _ => 0 * (intOf i).toNat)
    case atStart => exact ⟨rfl, rfl⟩
    case round =>
      obtain ⟨rfl, rfl⟩ := hrel
      by_cases h0 : 0 < bs.length
      · go_wp2_with (go_at_call 19; refine (spitValid_any _ _ _ _ hl (by first | exact hs | exact sub _)).mono ?_; rintro e w' ⟨rfl, q, rfl⟩)
        go_ret
        exact ⟨by rw [HD.out]; rfl, _, by first | rfl | exact (by first | rfl | exact World.drewN_drewN _ _ _)⟩
      · go_wp2_with (go_at_call 19; refine (spitValid_any _ _ _ _ hl hs).mono ?_; rintro e w' ⟨rfl, q, rfl⟩)
        go_ret
        exact ⟨by rw [HD.out]; rfl, _, rfl⟩
  have hl8 := pitOk_len hp
  have HNO : Hid (∀ k j i, k < bs.length → j < (nth bs k).needs.length → i < (nth bs (nth (nth bs k).needs j).toNat).needs.length → hasZ (nth bs k).needs (nth (nth bs (nth (nth bs k).needs j).toNat).needs i) = false → directF bs = false) := fun k j i h1 h2 h3 h4 => directF_no h1 h2 h3 h4
  have HYES : Hid ((∀ k, k < bs.length → DirK bs k) → directF bs = true) := directF_yes hp
  have HND : Hid (∀ k, k < bs.length → ∀ j, j < (nth bs k).needs.length → ∃ y : Nat, nth (nth bs k).needs j = (y : Int) ∧ y < k) := fun k hk j hj => pitOk_need hp hk hj
  go_enter Tryd.func51, Tryd.ntmps51
  go_wp2_with fail
  go_loopw [3] (fun i wr => ∃ (k q : Nat), k ≤ bs.length ∧ i = .int .i64 k ∧ Hid (∀ q, q < k → DirK bs q) ∧ wr = w.drewN q) (fun i _ => bs.length - (intOf i).toNat)
  case atStart => exact ⟨0, 0, by omega, rfl, fun q hq => by omega, rfl⟩
  case round =>
    obtain ⟨k, q, hk, rfl, HR, rfl⟩ := hrel
    by_cases hlt : k < bs.length
    · obtain ⟨b, off, A, C, rfl, hbw, h1, h2, h3, h4, h5, h6⟩ := Pit.at hs hlt
      go_wp2_with (go_at_call 19; refine (spitValid_any _ _ _ _ hl (sub _)).mono ?_; rintro e w' ⟨rfl, q', rfl⟩)
      go_loopw [4] (fun jv wj => ∃ (j q : Nat), j ≤ (nth bs k).needs.length ∧ jv = .int .i64 j ∧ Hid (∀ q, q < j → ∀ i, i < (nth bs (nth (nth bs k).needs q).toNat).needs.length → hasZ (nth bs k).needs (nth (nth bs (nth (nth bs k).needs q).toNat).needs i) = true) ∧ wj = w.drewN q) (fun jv _ => (nth bs k).needs.length - (intOf jv).toNat)
      case atStart => exact ⟨0, _, by omega, rfl, fun q hq => by omega, (by first | rfl | exact World.drewN_drewN _ _ _)⟩
      case round =>
        obtain ⟨j, q, hj, rfl, HJ, rfl⟩ := hrel
        by_cases hlt2 : j < (nth bs k).needs.length
        · obtain ⟨b', off', rfl, hb', hc⟩ := Ints.at h6 hlt2
          obtain ⟨y, hy, hyk⟩ := HND.out k hlt j hlt2
          have c1 := hc j hlt2
          rw [hy] at c1
          have hyb : y < bs.length := by omega
          obtain ⟨b2, off2, A2, C2, e2, hbw2, g1, g2, g3, g4, g5, g6⟩ := Pit.at hs hyb
          cases e2
          have HY : Hid ((nth (nth bs k).needs j).toNat = y) := by show _ = _; rw [hy]; simp
          clear hc hy g1
          go_wp2_with fail
          go_loopw [6] (fun ii wi => ∃ (i q : Nat), i ≤ (nth bs y).needs.length ∧ ii = .int .i64 i ∧ Hid (∀ q, q < i → hasZ (nth bs k).needs (nth (nth bs y).needs q) = true) ∧ wi = w.drewN q) (fun ii _ => (nth bs y).needs.length - (intOf ii).toNat)
          case atStart => exact ⟨0, _, by omega, rfl, fun q hq => by omega, rfl⟩
          case round =>
            obtain ⟨i, q, hi, rfl, HI, rfl⟩ := hrel
            by_cases hlt3 : i < (nth bs y).needs.length
            · obtain ⟨b3, off3, rfl, hb3, hc⟩ := Ints.at g6 hlt3
              have c2 := hc i hlt3
              clear hc c1
              have hI1 : (k : Int) < (bs.length : Int) := by omega
              cases hh : hasZ (nth bs k).needs (nth (nth bs y).needs i)
              · have HNO2 := Lib.hid (HNO.out k j i hlt hlt2 (by rw [HY.out]; exact hlt3) (by rw [HY.out]; exact hh))
                have hcall := fun n => l1Has_any (some ⟨b', off', none⟩) (nth bs k).needs C (nth (nth bs y).needs i) (w.drewN (q + n)) h3 (h6.drewN _)
                rw [hh] at hcall
                have HC := Lib.hid hcall
                clear hcall hh
                go_wp2_with fail
                go_quiet ((go_at_call 76; exact quiet_q (HC.out _)))
                go_wp2_with fail
                go_ret
                exact ⟨by rw [HNO2.out]; rfl, _, by first | rfl | exact (by first | rfl | exact World.drewN_drewN _ _ _)⟩
              · have HH := Lib.hid hh
                have hcall := fun n => l1Has_any (some ⟨b', off', none⟩) (nth bs k).needs C (nth (nth bs y).needs i) (w.drewN (q + n)) h3 (h6.drewN _)
                rw [hh] at hcall
                have HC := Lib.hid hcall
                clear hcall hh
                go_wp2_with fail
                go_quiet ((go_at_call 76; exact quiet_q (HC.out _)))
                go_wp2_with fail
                go_roundw
                case rel =>
                  refine ⟨i + 1, _, by omega, by go_num, fun q hq => ?_, (by first | rfl | exact World.drewN_drewN _ _ _)⟩
                  by_cases e : q = i
                  · rw [e]; exact HH.out
                  · exact HI.out q (by omega)
                case measure => simp [intOf] <;> omega
            · have HJN : Hid (∀ q, q < j + 1 → ∀ i, i < (nth bs (nth (nth bs k).needs q).toNat).needs.length → hasZ (nth bs k).needs (nth (nth bs (nth (nth bs k).needs q).toNat).needs i) = true) := fun q hq p hp => by
                by_cases e : q = j
                · subst e; rw [HY.out] at hp ⊢; exact HI.out p (by omega)
                · exact HJ.out q (by omega) p hp
              go_wp2_with fail
              go_roundw
              case rel => exact ⟨j + 1, _, by omega, by go_num, HJN, rfl⟩
              case measure => simp [intOf] <;> omega
        · have HRN : Hid (∀ q, q < k + 1 → DirK bs q) := fun q hq => by
            by_cases e : q = k
            · subst e; exact fun p hp => HJ.out p (by omega)
            · exact HR.out q (by omega)
          go_wp2_with fail
          go_roundw
          case rel => exact ⟨k + 1, _, by omega, by go_num, HRN, rfl⟩
          case measure => simp [intOf] <;> omega
    · have HY := Lib.hid (HYES.out fun q hq => HR.out q (by omega))
      go_wp2_with (go_at_call 19; refine (spitValid_any _ _ _ _ hl (sub _)).mono ?_; rintro e w' ⟨rfl, q', rfl⟩)
      go_ret
      exact ⟨by rw [HY.out]; rfl, _, (by first | rfl | exact World.drewN_drewN _ _ _)⟩
end Go.Proofs.YtnjpifaphmeepaaDoor
