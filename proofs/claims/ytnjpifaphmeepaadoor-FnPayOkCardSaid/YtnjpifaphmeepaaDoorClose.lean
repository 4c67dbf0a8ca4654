/- Closing sets, and full pits. Plain mathematics. -/
import Derived.Test.YtnjpifaphmeepaaDoorLPay
namespace Go.Proofs.YtnjpifaphmeepaaDoor
open Go Go.RowKit

theorem add_or_small : ∀ m, m < 256 → ∀ y, y < 8 → m.testBit y = false → m + 2 ^ y = m ||| 2 ^ y := by decide +kernel

theorem orNeeds_bit : ∀ (xs : List Int) (m i : Nat), (orNeeds m xs).testBit i = (m.testBit i || xs.any fun x => decide (x.toNat = i))
  | [], m, i => by simp [orNeeds]
  | x :: l, m, i => by
    rw [orNeeds, orNeeds_bit l, Nat.testBit_or, Nat.testBit_two_pow, List.any_cons, Bool.or_assoc]
theorem orNeeds_needs {bs : List Blk} (hp : pitOk bs = true) {k : Nat} (hk : k < bs.length) (m i : Nat) : (orNeeds m (nth bs k).needs).testBit i = (m.testBit i || needsB bs k i) := by
  rw [orNeeds_bit]
  congr 1
  rw [Bool.eq_iff_iff, List.any_eq_true]
  simp only [needsB, hasZ, decide_eq_true_eq]
  constructor
  · rintro ⟨x, hx, e⟩
    obtain ⟨q, hq, ex⟩ := List.getElem_of_mem hx
    obtain ⟨y, hy, hyk⟩ := pitOk_need hp hk hq
    rw [nth_eq hq, ex] at hy
    subst hy
    simp at e; subst e; exact hx
  · intro h
    exact ⟨(i : Int), h, by simp⟩
theorem need_lt {bs : List Blk} (hp : pitOk bs = true) {i j : Nat} (hi : i < bs.length) (h : needsB bs i j = true) : j < i := by
  simp only [needsB, hasZ, decide_eq_true_eq] at h
  obtain ⟨k, hk, e⟩ := List.getElem_of_mem h
  obtain ⟨y, hy, hlt⟩ := pitOk_need hp hi hk
  rw [nth_eq hk, e] at hy
  omega
theorem closeStep_bit {bs : List Blk} (hp : pitOk bs = true) {k : Nat} (hk : k < bs.length) (m i : Nat) : (closeStep bs k m).testBit i = (m.testBit i || (m.testBit k && needsB bs k i)) := by
  unfold closeStep
  cases h : m.testBit k
  · simp
  · rw [if_pos rfl, orNeeds_needs hp hk]; simp

/-- what closing from block k downwards gives -/
theorem closeDown_spec {bs : List Blk} (hp : pitOk bs = true) : ∀ (k m : Nat), k ≤ bs.length →
    (∀ i, m.testBit i = true → (closeDown bs k m).testBit i = true) ∧ (∀ i, k ≤ i → (closeDown bs k m).testBit i = m.testBit i) ∧
    (∀ i j, i < k → (closeDown bs k m).testBit i = true → needsB bs i j = true → (closeDown bs k m).testBit j = true) ∧
    (∀ S : Nat → Bool, (∀ i, m.testBit i = true → S i = true) → (∀ i j, i < k → S i = true → needsB bs i j = true → S j = true) → ∀ i, (closeDown bs k m).testBit i = true → S i = true)
  | 0, m, _ => ⟨fun _ h => h, fun _ _ => rfl, fun _ _ h => by omega, fun _ h _ i hi => h i hi⟩
  | k + 1, m, hk => by
    have hk' : k < bs.length := by omega
    obtain ⟨h1, h2, h3, h4⟩ := closeDown_spec hp k (closeStep bs k m) (by omega)
    have hb := closeStep_bit hp hk' m
    have hself : (closeStep bs k m).testBit k = m.testBit k := by
      rw [hb]
      have : needsB bs k k = false := by
        cases h : needsB bs k k
        · rfl
        · have := need_lt hp hk' h; omega
      simp [this]
    refine ⟨fun i hi => h1 i (by rw [hb, hi]; rfl), fun i hi => ?_, fun i j hi hc hn => ?_, fun S hm hS i hi => ?_⟩
    · show (closeDown bs k (closeStep bs k m)).testBit i = _
      rw [h2 i (by omega), hb]
      have : needsB bs k i = false := by
        cases h : needsB bs k i
        · rfl
        · have := need_lt hp hk' h; omega
      simp [this]
    · by_cases e : i = k
      · subst e
        have hc' : (closeDown bs i (closeStep bs i m)).testBit i = true := hc
        rw [h2 i (Nat.le_refl _), hself] at hc'
        refine h1 j ?_
        rw [hb, hc', hn]; simp
      · exact h3 i j (by omega) hc hn
    · refine h4 S (fun i hi => ?_) (fun i j hi => hS i j (by omega)) i hi
      rw [hb] at hi
      simp only [Bool.or_eq_true, Bool.and_eq_true] at hi
      rcases hi with hi | ⟨hi1, hi2⟩
      · exact hm i hi
      · exact hS k i (by omega) (hm k hi1) hi2

/-- closing a set: it may be taken, has the one before, and is the least such -/
theorem closeOf_sub {bs : List Blk} (hp : pitOk bs = true) {m i : Nat} (h : m.testBit i = true) : (closeOf bs m).testBit i = true := (closeDown_spec hp _ m (Nat.le_refl _)).1 i h
theorem closeOf_high {bs : List Blk} (hp : pitOk bs = true) {m i : Nat} (h : bs.length ≤ i) : (closeOf bs m).testBit i = m.testBit i := (closeDown_spec hp _ m (Nat.le_refl _)).2.1 i h
theorem closeOf_closed {bs : List Blk} (hp : pitOk bs = true) (m : Nat) : ClosedS bs (closeOf bs m).testBit := fun i j hi _ h1 h2 => (closeDown_spec hp _ m (Nat.le_refl _)).2.2.1 i j hi h1 h2
theorem closeOf_least {bs : List Blk} (hp : pitOk bs = true) {m : Nat} {S : Nat → Bool} (hm : ∀ i, m.testBit i = true → S i = true) (hS : ∀ i j, i < bs.length → S i = true → needsB bs i j = true → S j = true) :
    ∀ i, (closeOf bs m).testBit i = true → S i = true := (closeDown_spec hp _ m (Nat.le_refl _)).2.2.2 S hm hS
theorem bit_lt {m n i : Nat} (h : m < 2 ^ n) (hi : n ≤ i) : m.testBit i = false := Nat.testBit_lt_two_pow (Nat.lt_of_lt_of_le h (pow_le_of hi))
theorem lt_of_bits {m n : Nat} (h : ∀ i, n ≤ i → m.testBit i = false) : m < 2 ^ n := Nat.lt_pow_two_of_testBit m h
theorem closeOf_lt {bs : List Blk} (hp : pitOk bs = true) {m : Nat} (h : m < 2 ^ bs.length) : closeOf bs m < 2 ^ bs.length :=
  lt_of_bits fun i hi => by rw [closeOf_high hp hi]; exact bit_lt h hi
theorem two_pow_lt {k n : Nat} (h : k < n) : 2 ^ k < 2 ^ n := Nat.pow_lt_pow_right (by omega) h
theorem close_pow {bs : List Blk} (hp : pitOk bs = true) {k : Nat} (hk : k < bs.length) : pitCloseF bs ((2 : Int) ^ k) = ((closeOf bs (2 ^ k) : Nat) : Int) := by
  have e : ((2 : Int) ^ k) = ((2 ^ k : Nat) : Int) := by simp
  unfold pitCloseF
  rw [e, setOk_nat hp (two_pow_lt hk), if_pos rfl, Int.toNat_natCast]

/-! ### full pits -/
def fullB (bs : List Blk) (k : Nat) : Blk := ⟨(nth bs k).worth, bitsBelow (closeOf bs (2 ^ k)) k⟩
def fullN (bs : List Blk) (n : Nat) : List Blk := (List.range n).map (fullB bs)
def fullF (bs : List Blk) : List Blk := if pitOk bs then fullN bs bs.length else []
theorem fullN_succ (bs : List Blk) (n : Nat) : fullN bs (n + 1) = fullN bs n ++ [fullB bs n] := by simp [fullN, List.range_succ]
theorem fullN_len (bs : List Blk) (n : Nat) : (fullN bs n).length = n := by simp [fullN]
theorem nth_fullN {bs : List Blk} {n k : Nat} (h : k < n) : nth (fullN bs n) k = fullB bs k := by simp [nth, fullN, h]

theorem mem_bitsBelow {m k : Nat} {x : Int} : x ∈ bitsBelow m k ↔ ∃ i : Nat, x = (i : Int) ∧ i < k ∧ m.testBit i = true := by
  simp only [bitsBelow, List.mem_map, List.mem_filter, List.mem_range]
  constructor
  · rintro ⟨i, ⟨h1, h2⟩, rfl⟩; exact ⟨i, rfl, h1, h2⟩
  · rintro ⟨i, rfl, h1, h2⟩; exact ⟨i, ⟨h1, h2⟩, rfl⟩
theorem full_needs {bs : List Blk} {n k j : Nat} (h : k < n) : needsB (fullN bs n) k j = (decide (j < k) && (closeOf bs (2 ^ k)).testBit j) := by
  unfold needsB hasZ
  rw [nth_fullN h, Bool.eq_iff_iff, decide_eq_true_eq]
  simp only [fullB, decide_eq_true_eq, Bool.and_eq_true, mem_bitsBelow]
  constructor
  · rintro ⟨i, e, h1, h2⟩
    obtain rfl : j = i := by omega
    exact ⟨h1, h2⟩
  · rintro ⟨h1, h2⟩; exact ⟨j, rfl, h1, h2⟩

theorem ascB_append_one : ∀ (l : List Int) (x : Int), ascB l = true → (∀ y ∈ l, y < x) → ascB (l ++ [x]) = true
  | [], _, _, _ => rfl
  | [y], x, _, h => by simp [ascB, h y (by simp)]
  | y :: z :: l, x, h, hx => by
    simp only [ascB, Bool.and_eq_true, List.cons_append] at h ⊢
    exact ⟨h.1, ascB_append_one (z :: l) x h.2 (fun w hw => hx w (List.mem_cons_of_mem _ hw))⟩
theorem bits_asc (m : Nat) : ∀ k, ascB (bitsBelow m k) = true
  | 0 => rfl
  | k + 1 => by
    cases h : m.testBit k
    · rw [bitsBelow_no h]; exact bits_asc m k
    · rw [bitsBelow_yes h]
      exact ascB_append_one _ _ (bits_asc m k) fun y hy => by obtain ⟨i, e, hi, _⟩ := mem_bitsBelow.1 hy; omega
theorem bits_idx (m k : Nat) : areIdx (bitsBelow m k) k = true := by
  unfold areIdx
  rw [List.all_eq_true]
  intro x hx
  obtain ⟨i, e, hi, _⟩ := mem_bitsBelow.1 hx
  simp [isIdx]; omega

theorem fullN_ok {bs : List Blk} (hp : pitOk bs = true) : pitOk (fullN bs bs.length) = true := by
  have hl := pitOk_len hp
  have key : ∀ n, n ≤ bs.length → blksOk 0 (fullN bs n) = true := by
    intro n
    induction n with
    | zero => intro _; rfl
    | succ n ih =>
      intro hn
      rw [fullN_succ]
      have app : ∀ (l r : List Blk) (i : Nat), blksOk i (l ++ r) = (blksOk i l && blksOk (i + l.length) r) := by
        intro l
        induction l with
        | nil => intro r i; simp [blksOk]
        | cons b l ih =>
          intro r i
          simp only [List.cons_append, blksOk, ih r (i + 1), List.length_cons, Bool.and_assoc]
          rw [show i + 1 + l.length = i + (l.length + 1) by omega]
      rw [app, ih (by omega), fullN_len, Nat.zero_add]
      have hb := pitOk_blk hp (k := n) (by omega)
      simp only [blkOk, Bool.and_eq_true] at hb
      simp only [blksOk, blkOk, fullB, bits_idx, bits_asc, hb.1.1, Bool.true_and]
  simp only [pitOk, Bool.and_eq_true, decide_eq_true_eq]
  exact ⟨by rw [fullN_len]; exact hl, key _ (Nat.le_refl _)⟩

/-- in a full pit each block needs all that what it needs needs -/
theorem full_direct {bs : List Blk} (hp : pitOk bs = true) : Direct (fullN bs bs.length) := by
  intro i j k hi hj hk h1 h2
  rw [fullN_len] at hi hj hk
  rw [full_needs hi] at h1 ⊢
  rw [full_needs hj] at h2
  simp only [Bool.and_eq_true, decide_eq_true_eq] at h1 h2 ⊢
  refine ⟨by omega, ?_⟩
  refine closeOf_least hp (m := 2 ^ j) (S := (closeOf bs (2 ^ i)).testBit) (fun q hq => ?_) (fun p q hp' hS hn => ?_) k h2.2
  · rw [Nat.testBit_two_pow] at hq
    have : j = q := by simpa using hq
    rw [← this]; exact h1.2
  · exact closeOf_closed hp _ p q hp' (by have := need_lt hp hp' hn; omega) hS hn

/-- and the same sets may be taken -/
theorem full_closed {bs : List Blk} (hp : pitOk bs = true) (S : Nat → Bool) : ClosedS (fullN bs bs.length) S ↔ ClosedS bs S := by
  constructor
  · intro h i j hi hj hS hn
    have hlt := need_lt hp hi hn
    refine h i j (by rw [fullN_len]; exact hi) (by rw [fullN_len]; exact hj) hS ?_
    rw [full_needs hi]
    simp only [Bool.and_eq_true, decide_eq_true_eq]
    exact ⟨hlt, closeOf_closed hp _ i j hi hj (closeOf_sub hp (by simp)) hn⟩
  · intro h i j hi hj hS hn
    rw [fullN_len] at hi hj
    rw [full_needs hi] at hn
    simp only [Bool.and_eq_true, decide_eq_true_eq] at hn
    have := closeOf_least hp (m := 2 ^ i) (S := fun q => S q || decide (bs.length ≤ q)) (fun q hq => by
      rw [Nat.testBit_two_pow] at hq
      have : i = q := by simpa using hq
      simp [← this, hS]) (fun p q hp' h1 h2 => by
      have hq := need_lt hp hp' h2
      simp only [Bool.or_eq_true, decide_eq_true_eq] at h1 ⊢
      rcases h1 with h1 | h1
      · exact .inl (h p q hp' (by omega) h1 h2)
      · omega) j hn.2
    simp only [Bool.or_eq_true, decide_eq_true_eq] at this
    rcases this with h1 | h1
    · exact h1
    · omega
theorem full_worth {bs : List Blk} {k : Nat} (h : k < bs.length) : (nth (fullN bs bs.length) k).worth = (nth bs k).worth := by rw [nth_fullN h]; rfl
theorem full_cut (bs : List Blk) (S : Nat → Bool) : cutS (fullN bs bs.length) S = cutS bs S := by
  unfold cutS; rw [fullN_len]; exact sumN_congr fun i hi => by rw [full_worth hi]
theorem full_worthS (bs : List Blk) (S : Nat → Bool) : worthS (fullN bs bs.length) S = worthS bs S := by
  unfold worthS; rw [fullN_len]; exact sumN_congr fun i hi => by rw [full_worth hi]

/-- what impl.PitFull's needs read as -/
theorem bits_all {m k n : Nat} (h : ∀ i, k ≤ i → m.testBit i = false) (hn : k ≤ n) : bitsBelow m n = bitsBelow m k := by
  induction n with
  | zero => obtain rfl : k = 0 := by omega
            rfl
  | succ n ih =>
    by_cases e : k = n + 1
    · subst e; rfl
    · rw [bitsBelow_no (h n (by omega)), ih (by omega)]
theorem bits_congr {m m' : Nat} : ∀ {k : Nat}, (∀ i, i < k → m.testBit i = m'.testBit i) → bitsBelow m k = bitsBelow m' k
  | 0, _ => rfl
  | k + 1, h => by
    have ih := bits_congr (m := m) (m' := m') (k := k) fun i hi => h i (by omega)
    cases hk : m'.testBit k
    · rw [bitsBelow_no hk, bitsBelow_no (by rw [h k (by omega)]; exact hk), ih]
    · rw [bitsBelow_yes hk, bitsBelow_yes (by rw [h k (by omega)]; exact hk), ih]
theorem closeOf_pow_high {bs : List Blk} (hp : pitOk bs = true) {k i : Nat} (hk : k < i) : (closeOf bs (2 ^ k)).testBit i = false := by
  cases h : (closeOf bs (2 ^ k)).testBit i
  · rfl
  · have := closeOf_least hp (m := 2 ^ k) (S := fun q => decide (q ≤ k)) (fun q hq => by
      rw [Nat.testBit_two_pow] at hq
      have : k = q := by simpa using hq
      simp [← this]) (fun p q hp' h1 h2 => by
      have := need_lt hp hp' h2
      simp only [decide_eq_true_eq] at h1 ⊢; omega) i h
    simp only [decide_eq_true_eq] at this; omega
end Go.Proofs.YtnjpifaphmeepaaDoor
