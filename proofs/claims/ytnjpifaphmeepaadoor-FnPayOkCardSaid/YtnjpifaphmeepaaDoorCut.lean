/- The points that a greatest flow of a pit's network leaves reachable are the least of the best sets. Plain mathematics. -/
import Derived.Test.YtnjpifaphmeepaaDoorFlow
namespace Go.Proofs.YtnjpifaphmeepaaDoor
open Go Go.RowKit

abbrev PitFlow (bs : List Blk) (R : Nat → Nat → Int) (val : Int) : Prop := Flow (bs.length + 2) bs.length (bs.length + 1) (capOf bs) R val

theorem flow_le {bs : List Blk} {R : Nat → Nat → Int} {val : Int} (hp : pitOk bs = true) (h : PitFlow bs R val) : val ≤ 160 := by
  have h1 := h.out
  have h2 : 0 ≤ sumN (R bs.length) (bs.length + 2) := sumN_nonneg fun v hv => h.nonneg _ v (by omega) hv
  have h3 : sumN (capOf bs bs.length) (bs.length + 2) ≤ 20 * bs.length := by
    have : sumN (capOf bs bs.length) (bs.length + 2) = sumN (capOf bs bs.length) bs.length := by
      simp only [sumN]
      have e1 : capOf bs bs.length bs.length = 0 := by unfold capOf; rw [if_neg (by omega), if_neg (by omega), if_neg (by omega)]
      have e2 : capOf bs bs.length (bs.length + 1) = 0 := by unfold capOf; rw [if_neg (by omega), if_neg (by omega), if_neg (by omega)]
      omega
    rw [this]
    refine sumN_le_const fun v hv => ?_
    unfold capOf
    rw [if_pos ⟨rfl, hv⟩]
    exact (pos_range (pitOk_worth hp hv).2).2
  have := pitOk_len hp
  omega

section
variable {bs : List Blk} {R : Nat → Nat → Int} {val : Int} {f : Nat → Int}

/-- no payments are more than a cut -/
theorem flow_le_cut (h : PitFlow bs R val) {T : Nat → Bool} (hT : ClosedS bs T) : val ≤ cutS bs T := by
  rw [h.border (withSource bs T) (by omega) (withSource_s bs T) (withSource_t bs T), ← cap_border hT]
  refine sumN_le fun u hu => sumN_le fun v hv => ?_
  split
  · have := h.nonneg u v hu hv; omega
  · exact Int.le_refl _

/-- where the cut is the flow nothing is left free over the border -/
theorem cut_full (h : PitFlow bs R val) {T : Nat → Bool} (hT : ClosedS bs T) (he : cutS bs T ≤ val) :
    ∀ u v, u < bs.length + 2 → v < bs.length + 2 → withSource bs T u = true → withSource bs T v = false → R u v ≤ 0 := by
  intro u v hu hv h1 h2
  have hb := h.border (withSource bs T) (by omega) (withSource_s bs T) (withSource_t bs T)
  have hc := cap_border hT
  have hz : sumN (fun u => sumN (fun v => if withSource bs T u = true ∧ withSource bs T v = false then R u v else 0) (bs.length + 2)) (bs.length + 2) ≤ 0 := by
    have e : sumN (fun u => sumN (fun v => if withSource bs T u = true ∧ withSource bs T v = false then R u v else 0) (bs.length + 2)) (bs.length + 2) =
        sumN (fun u => sumN (fun v => if withSource bs T u = true ∧ withSource bs T v = false then capOf bs u v else 0) (bs.length + 2)) (bs.length + 2) -
        sumN (fun u => sumN (fun v => if withSource bs T u = true ∧ withSource bs T v = false then capOf bs u v - R u v else 0) (bs.length + 2)) (bs.length + 2) := by
      rw [← sumN_sub]
      refine sumN_congr fun u _ => ?_
      rw [← sumN_sub]
      refine sumN_congr fun v _ => ?_
      split <;> omega
    rw [e, ← hb, hc]; omega
  have hnn : ∀ u, u < bs.length + 2 → 0 ≤ sumN (fun v => if withSource bs T u = true ∧ withSource bs T v = false then R u v else 0) (bs.length + 2) := by
    intro u hu
    refine sumN_nonneg fun v hv => ?_
    split
    · exact h.nonneg u v hu hv
    · exact Int.le_refl _
  have hr := sumN_all_zero hnn hz u hu
  have hr2 := sumN_all_zero (f := fun v => if withSource bs T u = true ∧ withSource bs T v = false then R u v else 0) (n := bs.length + 2) (fun v hv => by
    split
    · exact h.nonneg u v hu hv
    · exact Int.le_refl _) (by rw [hr]; exact Int.le_refl _) v hv
  simp only [h1, h2, and_self, if_true] at hr2
  omega

def reachS (f : Nat → Int) (i : Nat) : Bool := decide (0 ≤ f i)

theorem reach_source (hf : Bfs (bs.length + 2) bs.length R f) (ht : f (bs.length + 1) < 0) {u : Nat} (hu : u < bs.length + 2) : withSource bs (reachS f) u = decide (0 ≤ f u) := by
  by_cases h1 : u < bs.length
  · rw [withSource_blk h1]; rfl
  · by_cases h2 : u = bs.length
    · subst h2; rw [withSource_s, hf.start]; simp
    · have : u = bs.length + 1 := by omega
      subst this; rw [withSource_t]; simp; omega

theorem reach_stuck (hf : Bfs (bs.length + 2) bs.length R f) (ht : f (bs.length + 1) < 0) :
    ∀ u v, u < bs.length + 2 → v < bs.length + 2 → withSource bs (reachS f) u = true → withSource bs (reachS f) v = false → R u v ≤ 0 := by
  intro u v hu hv h1 h2
  rw [reach_source hf ht hu] at h1
  rw [reach_source hf ht hv] at h2
  simp only [decide_eq_true_eq, decide_eq_false_iff_not] at h1 h2
  rcases Int.lt_or_le 0 (R u v) with h | h
  · exact absurd (hf.on u v hu hv h1 h) h2
  · exact h

/-- what is reached may be taken -/
theorem reach_closed (hp : pitOk bs = true) (h : PitFlow bs R val) (hf : Bfs (bs.length + 2) bs.length R f) (ht : f (bs.length + 1) < 0) : ClosedS bs (reachS f) := by
  intro i j hi hj h1 h2
  cases h3 : reachS f j
  · exfalso
    have hb := h.border (withSource bs (reachS f)) (by omega) (withSource_s _ _) (withSource_t _ _)
    have hle := flow_le hp h
    have hst := reach_stuck hf ht
    have hnn : ∀ u v, u < bs.length + 2 → v < bs.length + 2 → 0 ≤ if withSource bs (reachS f) u = true ∧ withSource bs (reachS f) v = false then capOf bs u v - R u v else 0 := by
      intro u v hu hv
      split
      · rename_i hc
        have := hst u v hu hv hc.1 hc.2
        have := cap_nonneg bs u v
        omega
      · exact Int.le_refl _
    have h4 := sumN_term (f := fun u => sumN (fun v => if withSource bs (reachS f) u = true ∧ withSource bs (reachS f) v = false then capOf bs u v - R u v else 0) (bs.length + 2)) (n := bs.length + 2) (fun u hu => sumN_nonneg fun v hv => hnn u v hu hv) i (by omega)
    have h5 := sumN_term (f := fun v => if withSource bs (reachS f) i = true ∧ withSource bs (reachS f) v = false then capOf bs i v - R i v else 0) (n := bs.length + 2) (fun v hv => hnn i v (by omega) hv) j (by omega)
    have hwi : withSource bs (reachS f) i = true := by rw [withSource_blk hi]; exact h1
    have hwj : withSource bs (reachS f) j = false := by rw [withSource_blk hj]; exact h3
    have hc : capOf bs i j = 161 := by unfold capOf; rw [if_neg (by omega), if_neg (by omega), if_pos ⟨hi, hj, h2⟩]
    have hR := hst i j (by omega) (by omega) hwi hwj
    simp only [hwi, hwj, and_self, if_true, hc] at h5
    simp only [hwi, true_and] at h4
    rw [hb] at hle
    simp only [true_and] at h5
    omega
  · rfl

/-- the flow is the cut at what is reached -/
theorem reach_cut (hp : pitOk bs = true) (h : PitFlow bs R val) (hf : Bfs (bs.length + 2) bs.length R f) (ht : f (bs.length + 1) < 0) : cutS bs (reachS f) = val := by
  rw [h.border (withSource bs (reachS f)) (by omega) (withSource_s _ _) (withSource_t _ _), ← cap_border (reach_closed hp h hf ht)]
  refine sumN_congr fun u hu => sumN_congr fun v hv => ?_
  split
  · rename_i hc
    have h1 := reach_stuck hf ht u v hu hv hc.1 hc.2
    have h2 := h.nonneg u v hu hv
    omega
  · rfl

/-- every set that may be taken and cuts no more has all that is reached -/
theorem reach_least (h : PitFlow bs R val) (hf : Bfs (bs.length + 2) bs.length R f) {T : Nat → Bool} (hT : ClosedS bs T) (he : cutS bs T ≤ val) : ∀ i, i < bs.length → reachS f i = true → T i = true := by
  intro i hi hr
  have := hf.inside (withSource bs T) (withSource_s bs T) (cut_full h hT he) i (by omega) (by simpa [reachS] using hr)
  rwa [withSource_blk hi] at this
end
end Go.Proofs.YtnjpifaphmeepaaDoor
