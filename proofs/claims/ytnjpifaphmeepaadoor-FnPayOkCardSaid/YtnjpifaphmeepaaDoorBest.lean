/- The best set of blocks. Plain mathematics. -/
import Derived.Test.YtnjpifaphmeepaaDoorW3
import Derived.Test.YtnjpifaphmeepaaDoorW5
import Derived.Test.YtnjpifaphmeepaaDoorCut
namespace Go.Proofs.YtnjpifaphmeepaaDoor
open Go Go.RowKit

def needsIn (m : Nat) : List Int → Bool
  | [] => true
  | x :: l => m.testBit x.toNat && needsIn m l
def mayFrom (m : Nat) : Nat → List Blk → Bool
  | _, [] => true
  | i, b :: l => (if m.testBit i then needsIn m b.needs else true) && mayFrom m (i + 1) l
def mayOf (bs : List Blk) (m : Nat) : Bool := mayFrom m 0 bs
def mayF (bs : List Blk) (s : Int) : Bool := setOk bs s && mayOf bs s.toNat

theorem needsIn_iff {m : Nat} : ∀ {xs : List Int}, needsIn m xs = true ↔ ∀ x ∈ xs, m.testBit x.toNat = true
  | [] => by simp [needsIn]
  | x :: l => by simp [needsIn, needsIn_iff (xs := l)]
theorem mayFrom_iff {m : Nat} : ∀ {bs : List Blk} {i : Nat}, mayFrom m i bs = true ↔ ∀ k, k < bs.length → m.testBit (i + k) = true → needsIn m (nth bs k).needs = true
  | [], i => by simp [mayFrom]
  | b :: l, i => by
    simp only [mayFrom, Bool.and_eq_true, mayFrom_iff (bs := l) (i := i + 1)]
    constructor
    · rintro ⟨h1, h2⟩ k hk hb
      cases k with
      | zero => rw [Nat.add_zero] at hb; rw [if_pos hb] at h1; exact h1
      | succ k => exact h2 k (by simpa using hk) (by rw [show i + 1 + k = i + (k + 1) by omega]; exact hb)
    · intro h
      refine ⟨?_, fun k hk hb => h (k + 1) (by simpa using hk) (by rw [show i + (k + 1) = i + 1 + k by omega]; exact hb)⟩
      by_cases hb : m.testBit i = true
      · rw [if_pos hb]; exact h 0 (by simp) hb
      · rw [if_neg hb]
theorem may_closed {bs : List Blk} (hp : pitOk bs = true) {m : Nat} : mayOf bs m = true ↔ ClosedS bs m.testBit := by
  unfold mayOf
  rw [mayFrom_iff]
  constructor
  · intro h i j hi hj hS hn
    have h1 := needsIn_iff.1 (h i hi (by rw [Nat.zero_add]; exact hS))
    simp only [needsB, hasZ, decide_eq_true_eq] at hn
    have := h1 _ hn
    simpa using this
  · intro h k hk hb
    rw [Nat.zero_add] at hb
    refine needsIn_iff.2 fun x hx => ?_
    obtain ⟨q, hq, e⟩ := List.getElem_of_mem hx
    obtain ⟨y, hy, hyk⟩ := pitOk_need hp hk hq
    rw [nth_eq hq, e] at hy
    subst hy
    exact h k y hk (by omega) hb (by simpa [needsB, hasZ] using hx)

theorem worthFrom_sum (m : Nat) : ∀ (bs : List Blk) (i : Nat), worthFrom m i bs = sumN (fun k => if m.testBit (i + k) then (nth bs k).worth else 0) bs.length := by
  have shift : ∀ (g : Nat → Int) (n : Nat), sumN g (n + 1) = g 0 + sumN (fun k => g (k + 1)) n := by
    intro g n
    induction n with
    | zero => simp [sumN]
    | succ n ih => rw [sumN, ih]; simp only [sumN]; omega
  intro bs
  induction bs with
  | nil => intro i; rfl
  | cons b l ih =>
    intro i
    rw [List.length_cons, shift, worthFrom, ih]
    have e : ∀ k, (i + 1 + k) = i + (k + 1) := fun k => by omega
    simp only [e]; rfl
theorem worth_sum (bs : List Blk) (m : Nat) : worthOf bs m = worthS bs m.testBit := by
  unfold worthOf worthS
  rw [worthFrom_sum]
  simp only [Nat.zero_add]

/-- a set of points as a number -/
def maskOf (S : Nat → Bool) : Nat → Nat
  | 0 => 0
  | k + 1 => if S k then maskOf S k ||| 2 ^ k else maskOf S k
theorem maskOf_bit (S : Nat → Bool) (i : Nat) : ∀ n, (maskOf S n).testBit i = (decide (i < n) && S i)
  | 0 => by simp [maskOf]
  | n + 1 => by
    unfold maskOf
    have ih := maskOf_bit S i n
    by_cases h : i = n
    · subst h
      cases hs : S i
      · rw [if_neg (by simp), ih]; simp [hs]
      · rw [if_pos rfl, Nat.testBit_or, ih, Nat.testBit_two_pow]; simp
    · have e1 : decide (i < n + 1) = decide (i < n) := by rw [decide_eq_decide]; omega
      rw [e1]
      split
      · rw [Nat.testBit_or, ih, Nat.testBit_two_pow]; simp; omega
      · exact ih
theorem maskOf_lt (S : Nat → Bool) : ∀ n, maskOf S n < 2 ^ n
  | 0 => by simp [maskOf]
  | n + 1 => by
    have h := maskOf_lt S n
    have e : 2 ^ n < 2 ^ (n + 1) := Nat.pow_lt_pow_right (by omega) (by omega)
    unfold maskOf
    split
    · exact Nat.or_lt_two_pow (by omega) e
    · omega
theorem maskOf_congr {S T : Nat → Bool} : ∀ {n : Nat}, (∀ i, i < n → S i = T i) → maskOf S n = maskOf T n
  | 0, _ => rfl
  | n + 1, h => by unfold maskOf; rw [h n (by omega), maskOf_congr (n := n) fun i hi => h i (by omega)]

structure IsBest (bs : List Blk) (m : Nat) : Prop where
  lt : m < 2 ^ bs.length
  may : mayOf bs m = true
  most : ∀ m', m' < 2 ^ bs.length → mayOf bs m' = true → worthOf bs m' ≤ worthOf bs m
  least : ∀ m', m' < 2 ^ bs.length → mayOf bs m' = true → worthOf bs m' = worthOf bs m → m ≤ m'
theorem IsBest.unique {bs : List Blk} {m m' : Nat} (h : IsBest bs m) (h' : IsBest bs m') : m = m' := by
  have h1 := h.most m' h'.lt h'.may
  have h2 := h'.most m h.lt h.may
  have h3 := h.least m' h'.lt h'.may (by omega)
  have h4 := h'.least m h.lt h.may (by omega)
  omega

/-- what the flow reaches is the best set -/
theorem reach_best {bs : List Blk} {R : Nat → Nat → Int} {val : Int} {f : Nat → Int} (hp : pitOk bs = true) (h : PitFlow bs R val) (hf : Bfs (bs.length + 2) bs.length R f) (ht : f (bs.length + 1) < 0) :
    IsBest bs (maskOf (reachS f) bs.length) ∧ cutS bs (maskOf (reachS f) bs.length).testBit = val := by
  have hbit : ∀ i, i < bs.length → (maskOf (reachS f) bs.length).testBit i = reachS f i := fun i hi => by rw [maskOf_bit]; simp [hi]
  have hc := reach_closed hp h hf ht
  have hcut := reach_cut hp h hf ht
  have hcut2 : cutS bs (maskOf (reachS f) bs.length).testBit = val := by
    rw [← hcut]; exact sumN_congr fun i hi => by rw [hbit i hi]
  have hcl : ClosedS bs (maskOf (reachS f) bs.length).testBit := fun i j hi hj h1 h2 => by
    rw [hbit i hi] at h1; rw [hbit j hj]; exact hc i j hi hj h1 h2
  have key : ∀ m', mayOf bs m' = true → val ≤ cutS bs m'.testBit := fun m' hm => flow_le_cut h ((may_closed hp).1 hm)
  have hw := cut_worth bs (maskOf (reachS f) bs.length).testBit
  refine ⟨⟨maskOf_lt _ _, (may_closed hp).2 hcl, fun m' _ hm => ?_, fun m' _ hm he => ?_⟩, hcut2⟩
  · have := key m' hm
    have := cut_worth bs m'.testBit
    rw [worth_sum, worth_sum]; omega
  · rw [worth_sum, worth_sum] at he
    have h1 := cut_worth bs m'.testBit
    have h2 := reach_least h hf ((may_closed hp).1 hm) (by omega)
    have e : maskOf (reachS f) bs.length &&& m' = maskOf (reachS f) bs.length := by
      refine Nat.eq_of_testBit_eq fun i => ?_
      rw [Nat.testBit_and, maskOf_bit]
      by_cases hi : i < bs.length
      · cases hr : reachS f i
        · simp
        · rw [h2 i hi hr]; simp
      · simp [hi]
    rw [← e]; exact Nat.and_le_right

/-! ### the brute search -/
def bestStep (bs : List Blk) (s : Nat) (b : Int) : Int := if mayOf bs s && (decide (b < 0) || decide (pitWorthF bs b < worthOf bs s)) then s else b
def scanB (bs : List Blk) : Nat → Nat → Int → Int
  | 0, _, b => b
  | n + 1, s, b => scanB bs n (s + 1) (bestStep bs s b)
def bestF (bs : List Blk) : Int := if pitOk bs then scanB bs (2 ^ bs.length) 0 (-1) else -1

theorem setOk_nat {bs : List Blk} (hp : pitOk bs = true) {m : Nat} (hm : m < 2 ^ bs.length) : setOk bs m = true := by
  have e : ((2 : Int) ^ bs.length) = ((2 ^ bs.length : Nat) : Int) := by simp
  simp only [setOk, hp, Bool.true_and, Bool.and_eq_true, decide_eq_true_eq, e]
  generalize 2 ^ bs.length = p at *
  omega
def ScanInv (bs : List Blk) (s : Nat) (b : Int) : Prop :=
  (b = -1 ∧ ∀ m', m' < s → mayOf bs m' = false) ∨ ∃ m : Nat, b = m ∧ m < s ∧ mayOf bs m = true ∧ ∀ m', m' < s → mayOf bs m' = true → worthOf bs m' ≤ worthOf bs m ∧ (worthOf bs m' = worthOf bs m → m ≤ m')
theorem ScanInv.step {bs : List Blk} (hp : pitOk bs = true) {s : Nat} {b : Int} (hs : s < 2 ^ bs.length) (h : ScanInv bs s b) : ScanInv bs (s + 1) (bestStep bs s b) := by
  unfold bestStep
  cases hm : mayOf bs s
  · simp only [Bool.false_and, Bool.false_eq_true, if_false]
    rcases h with ⟨h1, h2⟩ | ⟨m, h1, h2, h3, h4⟩
    · exact .inl ⟨h1, fun m' hm' => by
        by_cases e : m' = s
        · rw [e]; exact hm
        · exact h2 m' (by omega)⟩
    · refine .inr ⟨m, h1, by omega, h3, fun m' hm' hmay => ?_⟩
      by_cases e : m' = s
      · rw [e, hm] at hmay; exact absurd hmay (by simp)
      · exact h4 m' (by omega) hmay
  · simp only [Bool.true_and]
    rcases h with ⟨h1, h2⟩ | ⟨m, h1, h2, h3, h4⟩
    · rw [h1, if_pos (by simp)]
      refine .inr ⟨s, rfl, by omega, hm, fun m' hm' hmay => ?_⟩
      by_cases e : m' = s
      · rw [e]; omega
      · rw [h2 m' (by omega)] at hmay; exact absurd hmay (by simp)
    · subst h1
      have hw : pitWorthF bs m = worthOf bs m := by unfold pitWorthF; rw [if_pos (setOk_nat hp (by omega))]; simp
      rw [hw]
      by_cases hlt : worthOf bs m < worthOf bs s
      · rw [if_pos (by simp [hlt])]
        refine .inr ⟨s, rfl, by omega, hm, fun m' hm' hmay => ?_⟩
        by_cases e : m' = s
        · rw [e]; omega
        · have := h4 m' (by omega) hmay; omega
      · rw [if_neg (by simp [hlt])]
        refine .inr ⟨m, rfl, by omega, h3, fun m' hm' hmay => ?_⟩
        by_cases e : m' = s
        · rw [e]; omega
        · exact h4 m' (by omega) hmay
theorem ScanInv.scan {bs : List Blk} (hp : pitOk bs = true) : ∀ (n s : Nat) (b : Int), s + n = 2 ^ bs.length → ScanInv bs s b → ScanInv bs (2 ^ bs.length) (scanB bs n s b)
  | 0, s, b, he, h => by rw [← he]; exact h
  | n + 1, s, b, he, h => ScanInv.scan hp n (s + 1) _ (by omega) (h.step hp (by omega))
theorem mayFrom_zero : ∀ (bs : List Blk) (i : Nat), mayFrom 0 i bs = true
  | [], _ => rfl
  | b :: l, i => by simp [mayFrom, mayFrom_zero l (i + 1)]
theorem best_is {bs : List Blk} (hp : pitOk bs = true) : ∃ m : Nat, bestF bs = m ∧ IsBest bs m := by
  have h := ScanInv.scan hp (2 ^ bs.length) 0 (-1) (by omega) (.inl ⟨rfl, fun m' h => by omega⟩)
  unfold bestF
  rw [if_pos hp]
  rcases h with ⟨_, h2⟩ | ⟨m, h1, h2, h3, h4⟩
  · have := h2 0 (Nat.pow_pos (by omega))
    rw [mayOf, mayFrom_zero] at this; exact absurd this (by simp)
  · exact ⟨m, h1, h2, h3, fun m' a b => (h4 m' a b).1, fun m' a b => (h4 m' a b).2⟩
theorem best_of {bs : List Blk} (hp : pitOk bs = true) {m : Nat} (h : IsBest bs m) : bestF bs = m := by
  obtain ⟨m', e, h'⟩ := best_is hp
  rw [e, h.unique h']
def mostF (bs : List Blk) : Int := if pitOk bs then pitWorthF bs (bestF bs) else -1
end Go.Proofs.YtnjpifaphmeepaaDoor
