/- Flows and cuts of small networks, and of a pit's. Plain mathematics: no program, no memory. -/
import Derived.Test.YtnjpifaphmeepaaDoorPayF
namespace Go.Proofs.YtnjpifaphmeepaaDoor
open Go Go.RowKit

/-! ### sums -/
def sumN (f : Nat → Int) : Nat → Int
  | 0 => 0
  | n + 1 => sumN f n + f n
theorem sumN_congr {f g : Nat → Int} : ∀ {n : Nat}, (∀ i, i < n → f i = g i) → sumN f n = sumN g n
  | 0, _ => rfl
  | n + 1, h => by simp only [sumN]; rw [sumN_congr (n := n) fun i hi => h i (by omega), h n (by omega)]
theorem sumN_add (f g : Nat → Int) : ∀ n, sumN (fun i => f i + g i) n = sumN f n + sumN g n
  | 0 => rfl
  | n + 1 => by simp only [sumN, sumN_add f g n]; omega
theorem sumN_sub (f g : Nat → Int) : ∀ n, sumN (fun i => f i - g i) n = sumN f n - sumN g n
  | 0 => rfl
  | n + 1 => by simp only [sumN, sumN_sub f g n]; omega
theorem sumN_neg (f : Nat → Int) : ∀ n, sumN (fun i => - f i) n = - sumN f n
  | 0 => rfl
  | n + 1 => by simp only [sumN, sumN_neg f n]; omega
theorem sumN_zero : ∀ n, sumN (fun _ => 0) n = 0
  | 0 => rfl
  | n + 1 => by simp only [sumN, sumN_zero n]; rfl
theorem sumN_nonneg {f : Nat → Int} : ∀ {n : Nat}, (∀ i, i < n → 0 ≤ f i) → 0 ≤ sumN f n
  | 0, _ => Int.le_refl _
  | n + 1, h => by have h1 := sumN_nonneg (n := n) fun i hi => h i (by omega); have h2 := h n (by omega); simp only [sumN]; omega
theorem sumN_le {f g : Nat → Int} : ∀ {n : Nat}, (∀ i, i < n → f i ≤ g i) → sumN f n ≤ sumN g n
  | 0, _ => Int.le_refl _
  | n + 1, h => by have h1 := sumN_le (n := n) fun i hi => h i (by omega); have h2 := h n (by omega); simp only [sumN]; omega
theorem sumN_le_const {f : Nat → Int} {c : Int} : ∀ {n : Nat}, (∀ i, i < n → f i ≤ c) → sumN f n ≤ c * n
  | 0, _ => by simp [sumN]
  | n + 1, h => by
    have h1 := sumN_le_const (n := n) (c := c) fun i hi => h i (by omega)
    have h2 := h n (by omega)
    simp only [sumN]
    have e : c * ((n + 1 : Nat) : Int) = c * n + c := by rw [Int.natCast_succ, Int.mul_add, Int.mul_one]
    omega
/-- a sum of numbers from 0 on that is 0 -/
theorem sumN_all_zero {f : Nat → Int} : ∀ {n : Nat}, (∀ i, i < n → 0 ≤ f i) → sumN f n ≤ 0 → ∀ i, i < n → f i = 0
  | 0, _, _, i, hi => by omega
  | n + 1, h, h0, i, hi => by
    have h1 := sumN_nonneg (n := n) fun i hi => h i (by omega)
    have h2 := h n (by omega)
    simp only [sumN] at h0
    by_cases e : i = n
    · subst e; omega
    · exact sumN_all_zero (n := n) (fun i hi => h i (by omega)) (by omega) i (by omega)
/-- one term of a sum of numbers from 0 on -/
theorem sumN_term {f : Nat → Int} : ∀ {n : Nat}, (∀ i, i < n → 0 ≤ f i) → ∀ i, i < n → f i ≤ sumN f n
  | 0, _, i, hi => by omega
  | n + 1, h, i, hi => by
    have h1 := sumN_nonneg (n := n) fun i hi => h i (by omega)
    have h2 := h n (by omega)
    simp only [sumN]
    by_cases e : i = n
    · subst e; omega
    · have := sumN_term (n := n) (fun i hi => h i (by omega)) i (by omega); omega
theorem sumN_swap (h : Nat → Nat → Int) (m : Nat) : ∀ n, sumN (fun u => sumN (fun v => h u v) m) n = sumN (fun v => sumN (fun u => h u v) n) m
  | 0 => by simp only [sumN]; exact (sumN_zero m).symm
  | n + 1 => by simp only [sumN, sumN_swap h m n]; rw [← sumN_add]
/-- a change at one place -/
theorem sumN_upd (f : Nat → Int) (k : Nat) (x : Int) : ∀ n, sumN (fun j => if j = k then x else f j) n = if k < n then sumN f n - f k + x else sumN f n
  | 0 => by simp [sumN]
  | n + 1 => by
    simp only [sumN, sumN_upd f k x n]
    by_cases h1 : k < n
    · rw [if_pos h1, if_neg (by omega), if_pos (by omega)]; omega
    · by_cases h2 : k = n
      · subst h2; rw [if_neg h1, if_pos rfl, if_pos (by omega)]; omega
      · rw [if_neg h1, if_neg (by omega), if_neg (by omega)]
/-- what is the other way round with the other sign adds up to nothing -/
theorem sumN_anti {h : Nat → Nat → Int} {n : Nat} (ha : ∀ u v, u < n → v < n → h u v = - h v u) : sumN (fun u => sumN (fun v => h u v) n) n = 0 := by
  have e1 := sumN_swap h n n
  have e2 : sumN (fun v => sumN (fun u => h u v) n) n = - sumN (fun v => sumN (fun u => h v u) n) n := by
    rw [← sumN_neg]
    refine sumN_congr fun v hv => ?_
    rw [← sumN_neg]
    exact sumN_congr fun u hu => ha u v hu hv
  omega

/-! ### flows -/
/-- `R` is what is left free in a network of `N` points after a flow of `val` from `s` to `t` -/
structure Flow (N s t : Nat) (cap R : Nat → Nat → Int) (val : Int) : Prop where
  nonneg : ∀ u v, u < N → v < N → 0 ≤ R u v
  both : ∀ u v, u < N → v < N → R u v + R v u = cap u v + cap v u
  keep : ∀ u, u < N → u ≠ s → u ≠ t → sumN (R u) N = sumN (cap u) N
  out : sumN (R s) N = sumN (cap s) N - val

/-- what goes over the border of a set of points is the flow -/
theorem Flow.border {N s t : Nat} {cap R : Nat → Nat → Int} {val : Int} (h : Flow N s t cap R val) (T : Nat → Bool) (hs : s < N) (hTs : T s = true) (hTt : T t = false) :
    val = sumN (fun u => sumN (fun v => if T u = true ∧ T v = false then cap u v - R u v else 0) N) N := by
  have e0 : sumN (fun u => if T u then sumN (fun v => cap u v - R u v) N else 0) N = val := by
    have : sumN (fun u => if T u then sumN (fun v => cap u v - R u v) N else 0) N = sumN (fun u => if u = s then val else (fun _ => 0) u) N := by
      refine sumN_congr fun u hu => ?_
      by_cases e : u = s
      · subst e; rw [if_pos hTs, if_pos rfl, sumN_sub, h.out]; omega
      · rw [if_neg e]
        cases hT : T u
        · rfl
        · have ht : u ≠ t := by intro e; rw [e, hTt] at hT; cases hT
          simp only [if_true]
          rw [sumN_sub, h.keep u hu e ht]; omega
    rw [this, sumN_upd, if_pos hs, sumN_zero]; omega
  have e1 : sumN (fun u => if T u then sumN (fun v => cap u v - R u v) N else 0) N =
      sumN (fun u => sumN (fun v => if T u = true ∧ T v = false then cap u v - R u v else 0) N) N + sumN (fun u => sumN (fun v => if T u = true ∧ T v = true then cap u v - R u v else 0) N) N := by
    rw [← sumN_add]
    refine sumN_congr fun u _ => ?_
    cases hT : T u
    · simp [sumN_zero]
    · rw [← sumN_add]
      simp only [if_true]
      refine sumN_congr fun v _ => ?_
      cases T v <;> simp
  have e2 : sumN (fun u => sumN (fun v => if T u = true ∧ T v = true then cap u v - R u v else 0) N) N = 0 := by
    refine sumN_anti fun u v hu hv => ?_
    have := h.both u v hu hv
    cases T u <;> cases T v <;> simp <;> omega
  omega

/-! ### ways: what reachedFrom finds -/
/-- `f` tells for each point from which one it is first reached from `s` over what is free in `R` -/
structure Bfs (N s : Nat) (R : Nat → Nat → Int) (f : Nat → Int) : Prop where
  range : ∀ v, v < N → -1 ≤ f v ∧ f v < N
  start : f s = s
  back : ∃ rk : Nat → Nat, ∀ v, v < N → 0 ≤ f v → v ≠ s → 0 ≤ f (f v).toNat ∧ rk (f v).toNat < rk v ∧ 0 < R (f v).toNat v
  on : ∀ u v, u < N → v < N → 0 ≤ f u → 0 < R u v → 0 ≤ f v

/-- a set that has the start and that nothing free leaves has all that is reached -/
theorem Bfs.inside {N s : Nat} {R : Nat → Nat → Int} {f : Nat → Int} (h : Bfs N s R f) (T : Nat → Bool) (hs : T s = true) (hT : ∀ u v, u < N → v < N → T u = true → T v = false → R u v ≤ 0) :
    ∀ v, v < N → 0 ≤ f v → T v = true := by
  obtain ⟨rk, hb⟩ := h.back
  have key : ∀ n v, rk v = n → v < N → 0 ≤ f v → T v = true := by
    intro n
    induction n using Nat.strongRecOn with
    | _ n ih =>
      intro v hn hv hf
      by_cases e : v = s
      · rw [e]; exact hs
      obtain ⟨h1, h2, h3⟩ := hb v hv hf e
      have hr := h.range v hv
      have h4 := ih _ (hn ▸ h2) _ rfl (by omega) h1
      cases hTv : T v
      · have := hT _ v (by omega) hv h4 hTv; omega
      · rfl
  exact fun v => key _ v rfl

/-! ### the network of a pit -/
def needsB (bs : List Blk) (i j : Nat) : Bool := hasZ (nth bs i).needs j
def capOf (bs : List Blk) (u v : Nat) : Int :=
  if u = bs.length ∧ v < bs.length then pos (nth bs v).worth
  else if u < bs.length ∧ v = bs.length + 1 then cost (nth bs u).worth
  else if u < bs.length ∧ v < bs.length ∧ needsB bs u v = true then 161 else 0

/-- may the blocks for which S is true be taken? -/
def ClosedS (bs : List Blk) (S : Nat → Bool) : Prop := ∀ i j, i < bs.length → j < bs.length → S i = true → needsB bs i j = true → S j = true
def posSum (bs : List Blk) : Int := sumN (fun i => pos (nth bs i).worth) bs.length
def cutS (bs : List Blk) (S : Nat → Bool) : Int := sumN (fun i => if S i then cost (nth bs i).worth else pos (nth bs i).worth) bs.length
def worthS (bs : List Blk) (S : Nat → Bool) : Int := sumN (fun i => if S i then (nth bs i).worth else 0) bs.length
theorem pos_cost (x : Int) : x = pos x - cost x := by unfold cost pos; omega
theorem cut_worth (bs : List Blk) (S : Nat → Bool) : cutS bs S + worthS bs S = posSum bs := by
  unfold cutS worthS posSum
  rw [← sumN_add]
  refine sumN_congr fun i _ => ?_
  cases S i
  · simp
  · simp only [if_true]; have := pos_cost (nth bs i).worth; omega

/-- a set of blocks, with the source, without the sink -/
def withSource (bs : List Blk) (S : Nat → Bool) (u : Nat) : Bool := if u < bs.length then S u else u == bs.length
theorem withSource_blk {bs : List Blk} {S : Nat → Bool} {u : Nat} (h : u < bs.length) : withSource bs S u = S u := by simp [withSource, h]
theorem withSource_s (bs : List Blk) (S : Nat → Bool) : withSource bs S bs.length = true := by simp [withSource]
theorem withSource_t (bs : List Blk) (S : Nat → Bool) : withSource bs S (bs.length + 1) = false := by unfold withSource; rw [if_neg (by omega)]; simp

theorem cap_nonneg (bs : List Blk) (u v : Nat) : 0 ≤ capOf bs u v := by
  unfold capOf
  split
  · unfold pos; omega
  · split
    · unfold cost pos; omega
    · split <;> omega

/-- what may go over the border of a set that may be taken is its cut -/
theorem cap_border {bs : List Blk} {S : Nat → Bool} (hS : ClosedS bs S) :
    sumN (fun u => sumN (fun v => if withSource bs S u = true ∧ withSource bs S v = false then capOf bs u v else 0) (bs.length + 2)) (bs.length + 2) = cutS bs S := by
  have hrow : ∀ u, u < bs.length → sumN (fun v => if withSource bs S u = true ∧ withSource bs S v = false then capOf bs u v else 0) (bs.length + 2) = if S u then cost (nth bs u).worth else 0 := by
    intro u hu
    cases hu' : S u
    · refine (sumN_congr fun v _ => ?_).trans (sumN_zero _)
      rw [withSource_blk hu, hu']; simp
    · simp only [sumN, withSource_s, withSource_t, withSource_blk hu, hu', true_and]
      have z : sumN (fun v => if withSource bs S v = false then capOf bs u v else 0) bs.length = 0 := by
        refine (sumN_congr fun v hv => ?_).trans (sumN_zero _)
        rw [withSource_blk hv]
        cases hv' : S v
        · have hn : needsB bs u v = false := by
            cases hn : needsB bs u v
            · rfl
            · rw [hS u v hu hv hu' hn] at hv'; cases hv'
          simp only [if_true]
          unfold capOf
          rw [if_neg (by omega), if_neg (by omega), if_neg (by simp [hn])]
        · simp
      rw [z]
      have hc : capOf bs u (bs.length + 1) = cost (nth bs u).worth := by
        unfold capOf; rw [if_neg (by omega), if_pos ⟨hu, rfl⟩]
      simp [hc]
  have hsrc : sumN (fun v => if withSource bs S bs.length = true ∧ withSource bs S v = false then capOf bs bs.length v else 0) (bs.length + 2) = sumN (fun i => if S i then 0 else pos (nth bs i).worth) bs.length := by
    simp only [sumN, withSource_s, withSource_t, true_and]
    have hc : capOf bs bs.length (bs.length + 1) = 0 := by
      unfold capOf; rw [if_neg (by omega), if_neg (by omega), if_neg (by omega)]
    rw [hc]
    have : sumN (fun v => if withSource bs S v = false then capOf bs bs.length v else 0) bs.length = sumN (fun i => if S i then 0 else pos (nth bs i).worth) bs.length := by
      refine sumN_congr fun v hv => ?_
      rw [withSource_blk hv]
      cases S v
      · simp only [if_true]; unfold capOf; rw [if_pos ⟨rfl, hv⟩]; rfl
      · simp
    rw [this]; simp
  have hsink : sumN (fun v => if withSource bs S (bs.length + 1) = true ∧ withSource bs S v = false then capOf bs (bs.length + 1) v else 0) (bs.length + 2) = 0 := by
    refine (sumN_congr fun v _ => ?_).trans (sumN_zero _)
    rw [withSource_t]; simp
  have hall : sumN (fun u => sumN (fun v => if withSource bs S u = true ∧ withSource bs S v = false then capOf bs u v else 0) (bs.length + 2)) bs.length = sumN (fun u => if S u then cost (nth bs u).worth else 0) bs.length := sumN_congr fun u hu => hrow u hu
  show sumN _ bs.length + _ + _ = _
  simp only [hall, hsrc, hsink]
  unfold cutS
  rw [← sumN_add, Int.add_zero]
  refine sumN_congr fun i _ => ?_
  cases S i <;> simp
end Go.Proofs.YtnjpifaphmeepaaDoor
