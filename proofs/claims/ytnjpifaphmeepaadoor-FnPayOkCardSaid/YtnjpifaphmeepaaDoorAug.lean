/- A flow made greater along a way. Plain mathematics. -/
import Derived.Test.YtnjpifaphmeepaaDoorCut
import Derived.Test.YtnjpifaphmeepaaDoorBfs
namespace Go.Proofs.YtnjpifaphmeepaaDoor
open Go Go.RowKit

/-- a way back to s: each point was reached from the next one -/
def IsWay (N s : Nat) (R : Nat → Nat → Int) (f : Nat → Int) (rk : Nat → Nat) : List Nat → Prop
  | [] => False
  | [v] => v = s
  | v :: u :: l => v ≠ s ∧ v < N ∧ u < N ∧ f v = (u : Int) ∧ 0 < R u v ∧ rk u < rk v ∧ IsWay N s R f rk (u :: l)

theorem Bfs.way {N s : Nat} {R : Nat → Nat → Int} {f : Nat → Int} (h : Bfs N s R f) {t : Nat} (ht : t < N) (hf : 0 ≤ f t) : ∃ rk l, IsWay N s R f rk (t :: l) := by
  obtain ⟨rk, hb⟩ := h.back
  refine ⟨rk, ?_⟩
  have key : ∀ n v, rk v = n → v < N → 0 ≤ f v → ∃ l, IsWay N s R f rk (v :: l) := by
    intro n
    induction n using Nat.strongRecOn with
    | _ n ih =>
      intro v hn hv hf
      by_cases e : v = s
      · exact ⟨[], e⟩
      obtain ⟨h1, h2, h3⟩ := hb v hv hf e
      have hr := h.range v hv
      obtain ⟨l, hl⟩ := ih _ (hn ▸ h2) _ rfl (by omega) h1
      exact ⟨(f v).toNat :: l, e, hv, by omega, by omega, h3, h2, hl⟩
  exact key _ t rfl ht hf

section
variable {N s : Nat} {R : Nat → Nat → Int} {f : Nat → Int} {rk : Nat → Nat}
theorem IsWay.rk_lt : ∀ {l : List Nat} {v : Nat}, IsWay N s R f rk (v :: l) → ∀ x ∈ l, rk x < rk v
  | [], _, _, x, hx => by simp at hx
  | u :: l, v, h, x, hx => by
    obtain ⟨_, _, _, _, _, h1, h2⟩ := h
    rcases List.mem_cons.1 hx with rfl | hx
    · exact h1
    · have := IsWay.rk_lt h2 x hx; omega
theorem IsWay.lt (hs : s < N) : ∀ {l : List Nat} {v : Nat}, IsWay N s R f rk (v :: l) → ∀ x ∈ v :: l, x < N
  | [], v, h, x, hx => by simp at hx; subst hx; rw [show x = s from h]; exact hs
  | u :: l, v, h, x, hx => by
    obtain ⟨_, h0, _, _, _, _, h2⟩ := h
    rcases List.mem_cons.1 hx with rfl | hx
    · exact h0
    · exact IsWay.lt hs h2 x hx
theorem IsWay.nodup : ∀ {l : List Nat} {v : Nat}, IsWay N s R f rk (v :: l) → (v :: l).Nodup
  | [], _, _ => by simp
  | u :: l, v, h => by
    have h1 := h.rk_lt
    obtain ⟨_, _, _, _, _, _, h2⟩ := h
    exact List.nodup_cons.2 ⟨fun hm => by have := h1 v hm; omega, IsWay.nodup h2⟩
theorem IsWay.len (hs : s < N) {l : List Nat} {v : Nat} (h : IsWay N s R f rk (v :: l)) : l.length + 1 ≤ N := nodup_len h.nodup (h.lt hs)
end

/-- what is free along a way, at most c -/
def minWay (R : Nat → Nat → Int) : Int → List Nat → Int
  | c, v :: u :: l => minWay R (min c (R u v)) (u :: l)
  | c, _ => c
theorem minWay_le (R : Nat → Nat → Int) : ∀ (l : List Nat) (c : Int), minWay R c l ≤ c
  | [], c => Int.le_refl _
  | [_], c => Int.le_refl _
  | v :: u :: l, c => by have := minWay_le R (u :: l) (min c (R u v)); simp only [minWay]; omega
theorem minWay_pos {N s : Nat} {R : Nat → Nat → Int} {f : Nat → Int} {rk : Nat → Nat} : ∀ {l : List Nat} {v : Nat} {c : Int}, IsWay N s R f rk (v :: l) → 0 < c → 0 < minWay R c (v :: l)
  | [], _, _, _, hc => hc
  | u :: l, v, c, h, hc => by
    obtain ⟨_, _, _, _, h1, _, h2⟩ := h
    exact minWay_pos (l := l) (v := u) (c := min c (R u v)) h2 (by omega)

def upd2 (M : Nat → Nat → Int) (i j : Nat) (x : Int) : Nat → Nat → Int := fun p q => if p = i ∧ q = j then x else M p q
/-- F more along a way -/
def augStep (F : Int) (R : Nat → Nat → Int) (u v : Nat) : Nat → Nat → Int :=
  upd2 (upd2 R u v (R u v - F)) v u (upd2 R u v (R u v - F) v u + F)
def augWay (F : Int) : (Nat → Nat → Int) → List Nat → (Nat → Nat → Int)
  | R, v :: u :: l => augWay F (augStep F R u v) (u :: l)
  | R, _ => R

theorem augStep_eq {F : Int} {R : Nat → Nat → Int} {u v : Nat} (h : u ≠ v) (p q : Nat) : augStep F R u v p q = if p = u ∧ q = v then R u v - F else if p = v ∧ q = u then R v u + F else R p q := by
  unfold augStep upd2
  by_cases h1 : p = v ∧ q = u
  · obtain ⟨rfl, rfl⟩ := h1
    rw [if_pos ⟨rfl, rfl⟩, if_neg (by omega), if_neg (by omega), if_pos ⟨rfl, rfl⟩]
  · rw [if_neg h1, if_neg h1]

theorem sumN_two (a b : Nat → Int) (N : Nat) : sumN a N + sumN b N = sumN (fun i => a i + b i) N := (sumN_add a b N).symm

/-- the sum of a row behind a step -/
theorem augStep_row {F : Int} {R : Nat → Nat → Int} {u v N : Nat} (h : u ≠ v) (hu : u < N) (hv : v < N) (p : Nat) :
    sumN (augStep F R u v p) N = sumN (R p) N + (if p = u then -F else 0) + (if p = v then F else 0) := by
  have e : sumN (augStep F R u v p) N = sumN (fun q => if p = u ∧ q = v then R u v - F else if p = v ∧ q = u then R v u + F else R p q) N := sumN_congr fun q _ => augStep_eq h p q
  rw [e]
  by_cases h1 : p = u
  · subst h1
    rw [if_pos rfl, if_neg h]
    have e2 : sumN (fun q => if p = p ∧ q = v then R p v - F else if p = v ∧ q = p then R v p + F else R p q) N = sumN (fun q => if q = v then R p v - F else R p q) N := by
      refine sumN_congr fun q _ => ?_
      by_cases hq : q = v
      · rw [if_pos ⟨rfl, hq⟩, if_pos hq]
      · rw [if_neg (fun hh => hq hh.2), if_neg (fun hh => h hh.1), if_neg hq]
    rw [e2, sumN_upd (R p) v, if_pos hv]; omega
  · by_cases h2 : p = v
    · subst h2
      rw [if_neg h1, if_pos rfl]
      have e2 : sumN (fun q => if p = u ∧ q = p then R u p - F else if p = p ∧ q = u then R p u + F else R p q) N = sumN (fun q => if q = u then R p u + F else R p q) N := by
        refine sumN_congr fun q _ => ?_
        rw [if_neg (fun hh => h1 hh.1)]
        by_cases hq : q = u
        · rw [if_pos ⟨rfl, hq⟩, if_pos hq]
        · rw [if_neg (fun hh => hq hh.2), if_neg hq]
      rw [e2, sumN_upd (R p) u, if_pos hu]; omega
    · rw [if_neg h1, if_neg h2]
      have e2 : sumN (fun q => if p = u ∧ q = v then R u v - F else if p = v ∧ q = u then R v u + F else R p q) N = sumN (R p) N := by
        refine sumN_congr fun q _ => ?_
        rw [if_neg (fun hh => h1 hh.1), if_neg (fun hh => h2 hh.1)]
      rw [e2]; omega

/-- what holds in the middle of a way: `at_` is where it stands, `t` where it began -/
structure Mid (N s t : Nat) (cap R0 R : Nat → Nat → Int) (val F : Int) (rk : Nat → Nat) (at_ : Nat) : Prop where
  nonneg : ∀ u v, u < N → v < N → 0 ≤ R u v
  both : ∀ u v, u < N → v < N → R u v + R v u = cap u v + cap v u
  row : ∀ u, u < N → sumN (R u) N = sumN (R0 u) N + (if u = t then F else 0) + (if u = at_ then -F else 0)
  later : ∀ u v, u < N → v < N → rk v ≤ rk at_ → R0 u v ≤ R u v

theorem Mid.step {N s t : Nat} {cap R0 R : Nat → Nat → Int} {val F : Int} {rk : Nat → Nat} {u v : Nat} (h : Mid N s t cap R0 R val F rk v) (hF : 0 < F) (hu : u < N) (hv : v < N) (hrk : rk u < rk v) (hFe : F ≤ R0 u v) :
    Mid N s t cap R0 (augStep F R u v) val F rk u := by
  have hne : u ≠ v := by intro e; subst e; omega
  have hl := h.later u v hu hv (Nat.le_refl _)
  refine ⟨?_, ?_, ?_, ?_⟩
  · intro p q hp hq
    rw [augStep_eq hne]
    have := h.nonneg p q hp hq
    have := h.nonneg v u hv hu
    split
    · omega
    · split <;> omega
  · intro p q hp hq
    rw [augStep_eq hne, augStep_eq hne]
    have h1 := h.both p q hp hq
    have h2 := h.both u v hu hv
    by_cases a : p = u ∧ q = v
    · obtain ⟨rfl, rfl⟩ := a
      rw [if_pos ⟨rfl, rfl⟩, if_neg (by omega), if_pos ⟨rfl, rfl⟩]; omega
    · by_cases b : p = v ∧ q = u
      · obtain ⟨rfl, rfl⟩ := b
        rw [if_neg (by omega), if_pos ⟨rfl, rfl⟩, if_pos ⟨rfl, rfl⟩]; omega
      · rw [if_neg a, if_neg b, if_neg (by omega), if_neg (by omega)]; exact h1
  · intro p hp
    rw [augStep_row hne hu hv, h.row p hp]
    by_cases a : p = u
    · have : p ≠ v := by omega
      rw [if_pos a, if_neg this, if_neg this]; omega
    · rw [if_neg a]
      by_cases b : p = v
      · rw [if_pos b, if_pos b]; omega
      · rw [if_neg b, if_neg b]; omega
  · intro p q hp hq hr
    rw [augStep_eq hne]
    have := h.later p q hp hq (by omega)
    split
    · rename_i a; obtain ⟨rfl, rfl⟩ := a; omega
    · split
      · rename_i a; obtain ⟨rfl, rfl⟩ := a; omega
      · exact this

theorem Mid.way {N s t : Nat} {cap R0 : Nat → Nat → Int} {val F : Int} {f : Nat → Int} {rk : Nat → Nat} (hF : 0 < F) : ∀ {l : List Nat} {v : Nat} {R : Nat → Nat → Int} {c : Int},
    Mid N s t cap R0 R val F rk v → IsWay N s R0 f rk (v :: l) → F ≤ minWay R0 c (v :: l) → Mid N s t cap R0 (augWay F R (v :: l)) val F rk s
  | [], v, R, c, h, hw, _ => by rw [show v = s from hw] at h; exact h
  | u :: l, v, R, c, h, hw, hm => by
    obtain ⟨_, hv, hu, _, hR, hrk, hw'⟩ := hw
    have h1 := minWay_le R0 (u :: l) (min c (R0 u v))
    simp only [minWay] at hm
    exact Mid.way hF (l := l) (v := u) (R := augStep F R u v) (c := min c (R0 u v)) (h.step hF hu hv hrk (by omega)) hw' hm

/-- A FLOW MADE GREATER: along a way from t back to s -/
theorem Flow.aug {N s t : Nat} {cap R : Nat → Nat → Int} {val F c : Int} {f : Nat → Int} {rk : Nat → Nat} {l : List Nat} (h : Flow N s t cap R val) (hst : s ≠ t) (hs : s < N) (hF : 0 < F) (hw : IsWay N s R f rk (t :: l)) (hm : F ≤ minWay R c (t :: l)) :
    Flow N s t cap (augWay F R (t :: l)) (val + F) := by
  have h0 : Mid N s t cap R R val F rk t := ⟨h.nonneg, h.both, fun u _ => by split <;> omega, fun _ _ _ _ _ => Int.le_refl _⟩
  have h1 := h0.way hF hw hm
  refine ⟨h1.nonneg, h1.both, fun u hu h2 h3 => ?_, ?_⟩
  · rw [h1.row u hu, if_neg h3, if_neg h2, h.keep u hu h2 h3]; omega
  · rw [h1.row s hs, if_neg hst, if_pos rfl, h.out]; omega
end Go.Proofs.YtnjpifaphmeepaaDoor
