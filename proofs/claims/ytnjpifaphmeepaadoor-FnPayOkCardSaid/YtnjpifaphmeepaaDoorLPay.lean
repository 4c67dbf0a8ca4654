/- Payments: no table pays more than a cut, and the reference's way by way reaches the least cut. Plain mathematics. -/
import Derived.Test.YtnjpifaphmeepaaDoorBest
import Derived.Test.YtnjpifaphmeepaaDoorAug
namespace Go.Proofs.YtnjpifaphmeepaaDoor
open Go Go.RowKit

def wth (bs : List Blk) (i : Nat) : Int := (nth bs i).worth

/-- a right table of payments -/
structure PayInv (bs : List Blk) (M : Nat → Nat → Int) : Prop where
  nonneg : ∀ k j, k < bs.length → j < bs.length → 0 ≤ M k j
  edge : ∀ k j, k < bs.length → j < bs.length → 0 < M k j → needsB bs k j = true ∧ 0 < wth bs k ∧ wth bs j < 0
  row : ∀ k, k < bs.length → sumN (M k) bs.length ≤ pos (wth bs k)
  col : ∀ j, j < bs.length → sumN (fun k => M k j) bs.length ≤ cost (wth bs j)

def payTotal (bs : List Blk) (M : Nat → Nat → Int) : Int := sumN (fun k => sumN (M k) bs.length) bs.length

/-- no payments are more than a cut -/
theorem PayInv.le_cut {bs : List Blk} {M : Nat → Nat → Int} (h : PayInv bs M) {S : Nat → Bool} (hS : ClosedS bs S) : payTotal bs M ≤ cutS bs S := by
  have e : payTotal bs M = sumN (fun k => if S k then sumN (M k) bs.length else 0) bs.length + sumN (fun k => if S k then 0 else sumN (M k) bs.length) bs.length := by
    rw [← sumN_add]; refine sumN_congr fun k _ => ?_; cases S k <;> simp
  have h1 : sumN (fun k => if S k then sumN (M k) bs.length else 0) bs.length ≤ sumN (fun j => if S j then cost (wth bs j) else 0) bs.length := by
    have e1 : sumN (fun k => if S k then sumN (M k) bs.length else 0) bs.length = sumN (fun j => sumN (fun k => if S k then M k j else 0) bs.length) bs.length := by
      rw [← sumN_swap]
      refine sumN_congr fun k _ => ?_
      cases S k
      · simp [sumN_zero]
      · simp
    rw [e1]
    refine sumN_le fun j hj => ?_
    cases hSj : S j
    · have : sumN (fun k => if S k then M k j else 0) bs.length = 0 := by
        refine (sumN_congr fun k hk => ?_).trans (sumN_zero _)
        cases hSk : S k
        · simp
        · simp only [if_true]
          have h0 := h.nonneg k j hk hj
          by_cases hp : 0 < M k j
          · have := hS k j hk hj hSk (h.edge k j hk hj hp).1; rw [hSj] at this; cases this
          · omega
      rw [this]; simp
    · simp only [if_true]
      refine Int.le_trans (sumN_le fun k hk => ?_) (h.col j hj)
      have h0 := h.nonneg k j hk hj
      split <;> omega
  have h2 : sumN (fun k => if S k then 0 else sumN (M k) bs.length) bs.length ≤ sumN (fun k => if S k then 0 else pos (wth bs k)) bs.length := by
    refine sumN_le fun k hk => ?_
    have := h.row k hk
    split <;> omega
  have e2 : cutS bs S = sumN (fun j => if S j then cost (wth bs j) else 0) bs.length + sumN (fun k => if S k then 0 else pos (wth bs k)) bs.length := by
    rw [← sumN_add]; unfold cutS wth; refine sumN_congr fun k _ => ?_; cases S k <;> simp
  omega

/-- a step by which a payment can be changed -/
def PE (bs : List Blk) (M : Nat → Nat → Int) (u v : Nat) : Prop := (0 < wth bs u ∧ wth bs v < 0 ∧ needsB bs u v = true) ∨ (wth bs u < 0 ∧ 0 < M v u)

/-- a closed set without an end -/
structure Shut (bs : List Blk) (M : Nat → Nat → Int) (X : Nat → Bool) : Prop where
  on : ∀ u v, u < bs.length → v < bs.length → X u = true → PE bs M u v → X v = true
  full : ∀ j, j < bs.length → X j = true → wth bs j < 0 → cost (wth bs j) ≤ sumN (fun k => M k j) bs.length

theorem needsB_lt' {bs : List Blk} (hp : pitOk bs = true) {i j : Nat} (hi : i < bs.length) (h : needsB bs i j = true) : j < i := by
  simp only [needsB, hasZ, decide_eq_true_eq] at h
  obtain ⟨k, hk, e⟩ := List.getElem_of_mem h
  obtain ⟨y, hy, hlt⟩ := pitOk_need hp hi hk
  rw [nth_eq hk, e] at hy
  omega

def Direct (bs : List Blk) : Prop := ∀ i j k, i < bs.length → j < bs.length → k < bs.length → needsB bs i j = true → needsB bs j k = true → needsB bs i k = true

theorem pos_nonneg' (x : Int) : 0 ≤ pos x := by unfold pos; omega
theorem cost_nonneg' (x : Int) : 0 ≤ cost x := pos_nonneg' _

theorem exists_lt_bool (n : Nat) (p : Nat → Bool) : decide (∃ u, u < n ∧ p u = true) = (List.range n).any p := by
  rw [Bool.eq_iff_iff]; simp [List.any_eq_true]

/-- the set that shuts in a full pit, as a set of blocks that may be taken -/
theorem Shut.cut {bs : List Blk} {M : Nat → Nat → Int} {X : Nat → Bool} (hd : Direct bs) (h : PayInv bs M) (hX : Shut bs M X) (hr : ∀ u, u < bs.length → 0 < wth bs u → X u = false → pos (wth bs u) ≤ sumN (M u) bs.length) :
    ∃ S, ClosedS bs S ∧ cutS bs S ≤ payTotal bs M := by
  obtain ⟨S, hSd⟩ : ∃ S : Nat → Bool, ∀ i, S i = (List.range bs.length).any fun u => X u && decide (0 < wth bs u) && (decide (i = u) || needsB bs u i) := ⟨_, fun _ => rfl⟩
  have hS : ∀ i, S i = true ↔ ∃ u, u < bs.length ∧ X u = true ∧ 0 < wth bs u ∧ (i = u ∨ needsB bs u i = true) := by
    intro i; rw [hSd i, List.any_eq_true]; simp [and_assoc]
  refine ⟨S, fun i j hi hj h1 h2 => ?_, ?_⟩
  · obtain ⟨u, hu, hXu, hw, hc⟩ := (hS i).1 h1
    refine (hS j).2 ⟨u, hu, hXu, hw, .inr ?_⟩
    rcases hc with rfl | hc
    · exact h2
    · exact hd u i j hu hi hj hc h2
  have e : payTotal bs M = sumN (fun k => if X k then sumN (M k) bs.length else 0) bs.length + sumN (fun k => if X k then 0 else sumN (M k) bs.length) bs.length := by
    unfold payTotal; rw [← sumN_add]; refine sumN_congr fun k _ => ?_; cases X k <;> simp
  have h1 : sumN (fun j => if X j then cost (wth bs j) else 0) bs.length ≤ sumN (fun k => if X k then sumN (M k) bs.length else 0) bs.length := by
    have e1 : sumN (fun k => if X k then sumN (M k) bs.length else 0) bs.length = sumN (fun j => sumN (fun k => if X k then M k j else 0) bs.length) bs.length := by
      rw [← sumN_swap]
      refine sumN_congr fun k _ => ?_
      cases X k
      · simp [sumN_zero]
      · simp
    rw [e1]
    refine sumN_le fun j hj => ?_
    have hnn : 0 ≤ sumN (fun k => if X k then M k j else 0) bs.length := sumN_nonneg fun k hk => by
      have := h.nonneg k j hk hj; split <;> omega
    cases hXj : X j
    · simpa using hnn
    · by_cases hw : wth bs j < 0
      · have e2 : sumN (fun k => if X k then M k j else 0) bs.length = sumN (fun k => M k j) bs.length := by
          refine sumN_congr fun k hk => ?_
          cases hXk : X k
          · have h0 := h.nonneg k j hk hj
            by_cases hp : 0 < M k j
            · have := hX.on j k hj hk hXj (.inr ⟨hw, hp⟩); rw [hXk] at this; cases this
            · simp; omega
          · simp
        rw [e2]; simpa using hX.full j hj hXj hw
      · have : cost (wth bs j) = 0 := by unfold cost pos; omega
        simp only [if_true, this]; exact hnn
  have h2 : sumN (fun k => if X k then 0 else pos (wth bs k)) bs.length ≤ sumN (fun k => if X k then 0 else sumN (M k) bs.length) bs.length := by
    refine sumN_le fun k hk => ?_
    cases hXk : X k
    · by_cases hw : 0 < wth bs k
      · simpa using hr k hk hw hXk
      · have : pos (wth bs k) = 0 := by unfold pos; omega
        have h3 : 0 ≤ sumN (M k) bs.length := sumN_nonneg fun j hj => h.nonneg k j hk hj
        simpa [this] using h3
    · simp
  have h3 : cutS bs S ≤ sumN (fun j => if X j then cost (wth bs j) else 0) bs.length + sumN (fun k => if X k then 0 else pos (wth bs k)) bs.length := by
    rw [← sumN_add]
    unfold cutS
    refine sumN_le fun i hi => ?_
    show (if S i then cost (wth bs i) else pos (wth bs i)) ≤ _
    have c0 := cost_nonneg' (wth bs i)
    have p0 := pos_nonneg' (wth bs i)
    by_cases hSi : S i = true
    · rw [if_pos hSi]
      by_cases hw : wth bs i < 0
      · obtain ⟨u, hu, hXu, hwu, hc⟩ := (hS i).1 hSi
        have hXi : X i = true := by
          rcases hc with rfl | hc
          · omega
          · exact hX.on u i hu hi hXu (.inl ⟨hwu, hw, hc⟩)
        simp [hXi]
      · have : cost (wth bs i) = 0 := by unfold cost pos; omega
        rw [this]; split <;> omega
    · rw [if_neg hSi]
      by_cases hw : 0 < wth bs i
      · have hXi : X i = false := by
          cases hXi : X i
          · rfl
          · exact absurd ((hS i).2 ⟨i, hi, hXi, hw, .inl rfl⟩) hSi
        simp [hXi]
      · have : pos (wth bs i) = 0 := by unfold pos; omega
        rw [this]; split <;> omega
  omega

/-! ### ways -/
inductive PWay (bs : List Blk) (M : Nat → Nat → Int) : List Nat → Prop
  | last {k j : Nat} : 0 < wth bs k → wth bs j < 0 → needsB bs k j = true → PWay bs M [k, j]
  | more {k j k1 : Nat} {l : List Nat} : 0 < wth bs k → wth bs j < 0 → needsB bs k j = true → 0 < M k1 j → PWay bs M (k1 :: l) → PWay bs M (k :: j :: k1 :: l)

/-- the payments after a way -/
def augPay : (Nat → Nat → Int) → List Nat → (Nat → Nat → Int)
  | M, k :: j :: k1 :: l => augPay (upd2 (upd2 M k j (M k j + 1)) k1 j (upd2 M k j (M k j + 1) k1 j - 1)) (k1 :: l)
  | M, [k, j] => upd2 M k j (M k j + 1)
  | M, _ => M

theorem sumN_row2 (M : Nat → Nat → Int) (k j : Nat) (x : Int) (p n : Nat) (hj : j < n) : sumN (upd2 M k j x p) n = if p = k then sumN (M k) n - M k j + x else sumN (M p) n := by
  by_cases h : p = k
  · subst h
    rw [if_pos rfl]
    have : sumN (upd2 M p j x p) n = sumN (fun q => if q = j then x else M p q) n := sumN_congr fun q _ => by simp [upd2]
    rw [this, sumN_upd, if_pos hj]
  · rw [if_neg h]; exact sumN_congr fun q _ => by simp [upd2, h]
theorem sumN_col2 (M : Nat → Nat → Int) (k j : Nat) (x : Int) (q n : Nat) (hk : k < n) : sumN (fun p => upd2 M k j x p q) n = if q = j then sumN (fun p => M p j) n - M k j + x else sumN (fun p => M p q) n := by
  by_cases h : q = j
  · subst h
    rw [if_pos rfl]
    have : sumN (fun p => upd2 M k q x p q) n = sumN (fun p => if p = k then x else (fun p => M p q) p) n := sumN_congr fun p _ => by simp [upd2]
    rw [this, sumN_upd, if_pos hk]
  · rw [if_neg h]; exact sumN_congr fun p _ => by simp [upd2, h]

theorem total_upd2 {bs : List Blk} (M : Nat → Nat → Int) (k j : Nat) (x : Int) (hk : k < bs.length) (hj : j < bs.length) : payTotal bs (upd2 M k j x) = payTotal bs M - M k j + x := by
  unfold payTotal
  have : sumN (fun p => sumN (upd2 M k j x p) bs.length) bs.length = sumN (fun p => if p = k then sumN (M k) bs.length - M k j + x else (fun p => sumN (M p) bs.length) p) bs.length :=
    sumN_congr fun p _ => by rw [sumN_row2 M k j x p _ hj]
  rw [this, sumN_upd, if_pos hk]; omega

/-- the ways' points, one turn on -/
theorem PWay.congr {bs : List Blk} {M M' : Nat → Nat → Int} {l : List Nat} (h : PWay bs M l) (he : ∀ k j, k ∈ l → j ∈ l → M' k j = M k j) : PWay bs M' l := by
  induction h with
  | last h1 h2 h3 => exact .last h1 h2 h3
  | more h1 h2 h3 h4 _ ih =>
    refine .more h1 h2 h3 (by rw [he _ _ (by simp) (by simp)]; exact h4) (ih fun k j hk hj => he k j (List.mem_cons_of_mem _ (List.mem_cons_of_mem _ hk)) (List.mem_cons_of_mem _ (List.mem_cons_of_mem _ hj)))

structure AugOut (bs : List Blk) (M M' : Nat → Nat → Int) (k : Nat) (l : List Nat) : Prop where
  inv : PayInv bs M'
  total : payTotal bs M' = payTotal bs M + 1
  rows : ∀ p, p < bs.length → sumN (M' p) bs.length = sumN (M p) bs.length + (if p = k then 1 else 0)
  other : ∀ p q, (p ∉ l ∨ q ∉ l) → M' p q = M p q

theorem aug_out {bs : List Blk} : ∀ (n : Nat) (l : List Nat) (M : Nat → Nat → Int) (k : Nat), l.length ≤ n → PWay bs M (k :: l) → (k :: l).Nodup → (∀ x ∈ k :: l, x < bs.length) → PayInv bs M → sumN (M k) bs.length < pos (wth bs k) →
    sumN (fun p => M p ((k :: l).getLast (by simp))) bs.length < cost (wth bs ((k :: l).getLast (by simp))) → AugOut bs M (augPay M (k :: l)) k (k :: l) := by
  intro n
  induction n with
  | zero =>
    intro l M k hl hw
    have : l = [] := List.eq_nil_of_length_eq_zero (by omega)
    subst this
    cases hw
  | succ n ih =>
    intro l M k hl hw hn hlt hi hk hend
    cases hw with
    | @last _ j h1 h2 h3 =>
      have hk' : k < bs.length := hlt k (by simp)
      have hj' : j < bs.length := hlt j (by simp)
      simp only [List.getLast_cons_cons, List.getLast_singleton] at hend
      show AugOut bs M (upd2 M k j (M k j + 1)) k [k, j]
      have h0 := hi.nonneg k j hk' hj'
      refine ⟨⟨fun p q hp hq => ?_, fun p q hp hq hpos => ?_, fun p hp => ?_, fun q hq => ?_⟩, ?_, fun p hp => ?_, fun p q hpq => ?_⟩
      · unfold upd2; split
        · omega
        · exact hi.nonneg p q hp hq
      · unfold upd2 at hpos
        split at hpos
        · rename_i e; rw [e.1, e.2]; exact ⟨h3, h1, h2⟩
        · exact hi.edge p q hp hq hpos
      · rw [sumN_row2 _ _ _ _ _ _ hj']
        split
        · rename_i e; subst e; omega
        · exact hi.row p hp
      · rw [sumN_col2 _ _ _ _ _ _ hk']
        split
        · rename_i e; subst e; omega
        · exact hi.col q hq
      · rw [total_upd2 _ _ _ _ hk' hj']; omega
      · rw [sumN_row2 _ _ _ _ _ _ hj']
        split
        · rename_i e; subst e; omega
        · omega
      · unfold upd2
        rw [if_neg]
        rintro ⟨rfl, rfl⟩
        simp at hpq
    | @more _ j k1 l h1 h2 h3 h4 hw =>
      have hk' : k < bs.length := hlt k (by simp)
      have hj' : j < bs.length := hlt j (by simp)
      have hk1' : k1 < bs.length := hlt k1 (by simp)
      have hn' := hn
      simp only [List.nodup_cons, List.mem_cons, not_or] at hn
      obtain ⟨⟨n1, n2, n3⟩, ⟨n4, n5⟩, n6, n7⟩ := hn
      obtain ⟨M2, hM2⟩ : ∃ M2, M2 = upd2 (upd2 M k j (M k j + 1)) k1 j (upd2 M k j (M k j + 1) k1 j - 1) := ⟨_, rfl⟩
      have e1 : upd2 M k j (M k j + 1) k1 j = M k1 j := by unfold upd2; rw [if_neg (by intro e; exact n2 e.1.symm)]
      have e0 : upd2 M k j (M k j + 1) k j = M k j + 1 := by unfold upd2; rw [if_pos ⟨rfl, rfl⟩]
      show AugOut bs M (augPay (upd2 (upd2 M k j (M k j + 1)) k1 j (upd2 M k j (M k j + 1) k1 j - 1)) (k1 :: l)) k (k :: j :: k1 :: l)
      rw [← hM2]
      have h0 := hi.nonneg k j hk' hj'
      obtain ⟨hne, hwk1, hwj⟩ := hi.edge k1 j hk1' hj' h4
      have rowM2 : ∀ p, p < bs.length → sumN (M2 p) bs.length = sumN (M p) bs.length + (if p = k then 1 else 0) - (if p = k1 then 1 else 0) := by
        intro p hp
        rw [hM2, sumN_row2 _ _ _ _ _ _ hj', e1, sumN_row2 _ _ _ _ _ _ hj', sumN_row2 _ _ _ _ _ _ hj']
        by_cases c1 : p = k1
        · subst c1; rw [if_pos rfl, if_pos rfl, if_neg (fun e => n2 e.symm), if_neg (fun e => n2 e.symm)]; omega
        · rw [if_neg c1, if_neg c1]
          by_cases c2 : p = k
          · subst c2; rw [if_pos rfl, if_pos rfl]; omega
          · rw [if_neg c2, if_neg c2]; omega
      have colM2 : ∀ q, sumN (fun p => M2 p q) bs.length = sumN (fun p => M p q) bs.length := by
        intro q
        rw [hM2, sumN_col2 _ _ _ _ _ _ hk1', e1, sumN_col2 _ _ _ _ _ _ hk', sumN_col2 _ _ _ _ _ _ hk']
        by_cases c1 : q = j
        · subst c1; rw [if_pos rfl, if_pos rfl]; omega
        · rw [if_neg c1, if_neg c1]
      have valM2 : ∀ p q, M2 p q = if p = k1 ∧ q = j then M k1 j - 1 else if p = k ∧ q = j then M k j + 1 else M p q := by
        intro p q; rw [hM2, e1]; rfl
      have inv2 : PayInv bs M2 := by
        refine ⟨fun p q hp hq => ?_, fun p q hp hq hpos => ?_, fun p hp => ?_, fun q hq => ?_⟩
        · rw [valM2]; split
          · omega
          · split
            · omega
            · exact hi.nonneg p q hp hq
        · rw [valM2] at hpos
          split at hpos
          · rename_i e; rw [e.1, e.2]; exact ⟨hne, hwk1, hwj⟩
          · split at hpos
            · rename_i e; rw [e.1, e.2]; exact ⟨h3, h1, h2⟩
            · exact hi.edge p q hp hq hpos
        · rw [rowM2 p hp]
          have := hi.row p hp
          by_cases c2 : p = k
          · subst c2; rw [if_pos rfl, if_neg n2]; omega
          · rw [if_neg c2]; split <;> omega
        · rw [colM2]; exact hi.col q hq
      have hw2 : PWay bs M2 (k1 :: l) := hw.congr fun p q hp hq => by
        rw [valM2, if_neg, if_neg]
        · rintro ⟨_, rfl⟩; simp at hq; rcases hq with rfl | hq
          · exact n4 rfl
          · exact n5 hq
        · rintro ⟨_, rfl⟩; simp at hq; rcases hq with rfl | hq
          · exact n4 rfl
          · exact n5 hq
      have hrow2 : sumN (M2 k1) bs.length < pos (wth bs k1) := by
        rw [rowM2 k1 hk1', if_neg (fun e => n2 e.symm), if_pos rfl]
        have := hi.row k1 hk1'; omega
      have hend2 : sumN (fun p => M2 p ((k1 :: l).getLast (by simp))) bs.length < cost (wth bs ((k1 :: l).getLast (by simp))) := by
        rw [colM2]
        simpa [List.getLast_cons_cons] using hend
      have o := ih l M2 k1 (by simp at hl; omega) hw2 (by simp [n6, n7]) (fun x hx => hlt x (List.mem_cons_of_mem _ (List.mem_cons_of_mem _ hx))) inv2 hrow2 hend2
      refine ⟨o.inv, ?_, fun p hp => ?_, fun p q hpq => ?_⟩
      · rw [o.total, hM2, total_upd2 _ _ _ _ hk1' hj', total_upd2 _ _ _ _ hk' hj']; omega
      · rw [o.rows p hp, rowM2 p hp]; omega
      · rw [o.other p q (hpq.imp (fun h h' => h (List.mem_cons_of_mem _ (List.mem_cons_of_mem _ h'))) (fun h h' => h (List.mem_cons_of_mem _ (List.mem_cons_of_mem _ h')))), valM2, if_neg, if_neg]
        · rintro ⟨rfl, rfl⟩; simp at hpq
        · rintro ⟨rfl, rfl⟩; simp at hpq

/-- a shut set is not touched by a way to an end that is not full -/
theorem Shut.away {bs : List Blk} {M : Nat → Nat → Int} {X : Nat → Bool} (hX : Shut bs M X) : ∀ {l : List Nat} (_ : PWay bs M l) (hne : l ≠ []), (∀ x ∈ l, x < bs.length) →
    sumN (fun p => M p (l.getLast hne)) bs.length < cost (wth bs (l.getLast hne)) → ∀ x ∈ l, X x = false := by
  intro l hw
  induction hw with
  | @last k j h1 h2 h3 =>
    intro hne hlt hend
    simp only [List.getLast_cons_cons, List.getLast_singleton] at hend
    have hj : X j = false := by
      cases e : X j
      · rfl
      · have := hX.full j (hlt j (by simp)) e h2; omega
    have hk : X k = false := by
      cases e : X k
      · rfl
      · have := hX.on k j (hlt k (by simp)) (hlt j (by simp)) e (.inl ⟨h1, h2, h3⟩); rw [hj] at this; cases this
    intro x hx; simp at hx; rcases hx with rfl | rfl <;> assumption
  | @more k j k1 l h1 h2 h3 h4 hw ih =>
    intro hne hlt hend
    have := ih (by simp) (fun x hx => hlt x (List.mem_cons_of_mem _ (List.mem_cons_of_mem _ hx))) (by simpa [List.getLast_cons_cons] using hend)
    have hk1 := this k1 (by simp)
    have hj : X j = false := by
      cases e : X j
      · rfl
      · have := hX.on j k1 (hlt j (by simp)) (hlt k1 (by simp)) e (.inr ⟨h2, h4⟩); rw [hk1] at this; cases this
    have hk : X k = false := by
      cases e : X k
      · rfl
      · have := hX.on k j (hlt k (by simp)) (hlt j (by simp)) e (.inl ⟨h1, h2, h3⟩); rw [hj] at this; cases this
    intro x hx
    simp at hx
    rcases hx with rfl | rfl | hx
    · exact hk
    · exact hj
    · exact this x (by simpa using hx)

theorem Shut.keep {bs : List Blk} {M M' : Nat → Nat → Int} {X : Nat → Bool} (hX : Shut bs M X) {l : List Nat} (ha : ∀ x ∈ l, X x = false) (ho : ∀ p q, (p ∉ l ∨ q ∉ l) → M' p q = M p q) : Shut bs M' X := by
  have hq : ∀ p q, X q = true → M' p q = M p q := fun p q h => ho p q (.inr fun hm => by rw [ha q hm] at h; cases h)
  refine ⟨fun u v hu hv h1 h2 => ?_, fun j hj h1 h2 => ?_⟩
  · rcases h2 with h2 | ⟨h2, h3⟩
    · exact hX.on u v hu hv h1 (.inl h2)
    · rw [hq v u h1] at h3; exact hX.on u v hu hv h1 (.inr ⟨h2, h3⟩)
  · rw [sumN_congr fun k _ => hq k j h1]; exact hX.full j hj h1 h2

theorem Shut.empty (bs : List Blk) (M : Nat → Nat → Int) : Shut bs M (fun _ => false) := ⟨fun _ _ _ _ h _ => by simp at h, fun _ _ h _ => by simp at h⟩
theorem Shut.union {bs : List Blk} {M : Nat → Nat → Int} {X Y : Nat → Bool} (hX : Shut bs M X) (hY : Shut bs M Y) : Shut bs M (fun i => X i || Y i) := by
  refine ⟨fun u v hu hv h1 h2 => ?_, fun j hj h1 h2 => ?_⟩
  · simp only [Bool.or_eq_true] at h1 ⊢
    rcases h1 with h1 | h1
    · exact .inl (hX.on u v hu hv h1 h2)
    · exact .inr (hY.on u v hu hv h1 h2)
  · simp only [Bool.or_eq_true] at h1
    rcases h1 with h1 | h1
    · exact hX.full j hj h1 h2
    · exact hY.full j hj h1 h2

/-! ### the reference's search -/
section
variable (bs : List Blk) (M : Nat → Nat → Int)
def colSum (j : Nat) : Int := sumN (fun k => M k j) bs.length
/-- over the blocks that pay to j, from k on -/
def wayK (rec : List Nat → List Nat) (way : List Nat) (j : Nat) : Nat → Nat → List Nat
  | 0, _ => []
  | r + 1, k => if 0 < M k j ∧ k ∉ way then (if (rec (way ++ [j] ++ [k])).length > 0 then rec (way ++ [j] ++ [k]) else wayK rec way j r (k + 1)) else wayK rec way j r (k + 1)
/-- over the blocks that may be paid to, from j on -/
def wayJ (rec : List Nat → List Nat) (way : List Nat) (at_ : Nat) : Nat → Nat → List Nat
  | 0, _ => []
  | r + 1, j => if (needsB bs at_ j = true ∧ j ∉ way) ∧ wth bs j < 0 then
      (if colSum bs M j < cost (wth bs j) then way ++ [j] else if (wayK M rec way j bs.length 0).length > 0 then wayK M rec way j bs.length 0 else wayJ rec way at_ r (j + 1))
      else wayJ rec way at_ r (j + 1)
def wayR : Nat → List Nat → List Nat
  | 0, _ => []
  | f + 1, way => wayJ bs M (wayR f) way (way.getLastD 0) bs.length 0
end

variable {bs : List Blk} {M : Nat → Nat → Int}
theorem wayK_some {rec : List Nat → List Nat} {way : List Nat} {j : Nat} : ∀ {r k : Nat}, 0 < (wayK M rec way j r k).length → ∃ k', k ≤ k' ∧ k' < k + r ∧ 0 < M k' j ∧ k' ∉ way ∧ wayK M rec way j r k = rec (way ++ [j] ++ [k']) ∧ 0 < (rec (way ++ [j] ++ [k'])).length
  | 0, k, h => by simp [wayK] at h
  | r + 1, k, h => by
    unfold wayK at h ⊢
    by_cases c : 0 < M k j ∧ k ∉ way
    · rw [if_pos c] at h ⊢
      by_cases c2 : (rec (way ++ [j] ++ [k])).length > 0
      · rw [if_pos c2] at h ⊢; exact ⟨k, by omega, by omega, c.1, c.2, rfl, c2⟩
      · rw [if_neg c2] at h ⊢
        obtain ⟨k', h1, h2, h3⟩ := wayK_some h
        exact ⟨k', by omega, by omega, h3⟩
    · rw [if_neg c] at h ⊢
      obtain ⟨k', h1, h2, h3⟩ := wayK_some h
      exact ⟨k', by omega, by omega, h3⟩
theorem wayK_none {rec : List Nat → List Nat} {way : List Nat} {j : Nat} : ∀ {r k : Nat}, (wayK M rec way j r k).length = 0 → ∀ k', k ≤ k' → k' < k + r → 0 < M k' j → k' ∉ way → (rec (way ++ [j] ++ [k'])).length = 0
  | 0, k, h, k', h1, h2 => by omega
  | r + 1, k, h, k', h1, h2 => by
    intro h3 h4
    unfold wayK at h
    by_cases e : k' = k
    · subst e
      rw [if_pos ⟨h3, h4⟩] at h
      by_cases c2 : (rec (way ++ [j] ++ [k'])).length > 0
      · rw [if_pos c2] at h; omega
      · omega
    · refine wayK_none (r := r) (k := k + 1) ?_ k' (by omega) (by omega) h3 h4
      by_cases c : 0 < M k j ∧ k ∉ way
      · rw [if_pos c] at h
        by_cases c2 : (rec (way ++ [j] ++ [k])).length > 0
        · rw [if_pos c2] at h; omega
        · rw [if_neg c2] at h; exact h
      · rw [if_neg c] at h; exact h
theorem wayJ_some {rec : List Nat → List Nat} {way : List Nat} {a : Nat} : ∀ {r j : Nat}, 0 < (wayJ bs M rec way a r j).length → ∃ j', j ≤ j' ∧ j' < j + r ∧ needsB bs a j' = true ∧ j' ∉ way ∧ wth bs j' < 0 ∧
      ((wayJ bs M rec way a r j = way ++ [j'] ∧ colSum bs M j' < cost (wth bs j')) ∨ (wayJ bs M rec way a r j = wayK M rec way j' bs.length 0 ∧ 0 < (wayK M rec way j' bs.length 0).length))
  | 0, j, h => by simp [wayJ] at h
  | r + 1, j, h => by
    have next : 0 < (wayJ bs M rec way a r (j + 1)).length → wayJ bs M rec way a (r + 1) j = wayJ bs M rec way a r (j + 1) → ∃ j', j ≤ j' ∧ j' < j + (r + 1) ∧ needsB bs a j' = true ∧ j' ∉ way ∧ wth bs j' < 0 ∧
        ((wayJ bs M rec way a (r + 1) j = way ++ [j'] ∧ colSum bs M j' < cost (wth bs j')) ∨ (wayJ bs M rec way a (r + 1) j = wayK M rec way j' bs.length 0 ∧ 0 < (wayK M rec way j' bs.length 0).length)) := fun h e => by
      rw [e]
      obtain ⟨j', h1, h2, h3⟩ := wayJ_some h
      exact ⟨j', by omega, by omega, h3⟩
    by_cases c : (needsB bs a j = true ∧ j ∉ way) ∧ wth bs j < 0
    · by_cases c2 : colSum bs M j < cost (wth bs j)
      · exact ⟨j, by omega, by omega, c.1.1, c.1.2, c.2, .inl ⟨by unfold wayJ; rw [if_pos c, if_pos c2], c2⟩⟩
      · by_cases c3 : (wayK M rec way j bs.length 0).length > 0
        · exact ⟨j, by omega, by omega, c.1.1, c.1.2, c.2, .inr ⟨by unfold wayJ; rw [if_pos c, if_neg c2, if_pos c3], c3⟩⟩
        · have e : wayJ bs M rec way a (r + 1) j = wayJ bs M rec way a r (j + 1) := by rw [wayJ]; rw [if_pos c, if_neg c2, if_neg c3]
          exact next (by rw [← e]; exact h) e
    · have e : wayJ bs M rec way a (r + 1) j = wayJ bs M rec way a r (j + 1) := by rw [wayJ]; rw [if_neg c]
      exact next (by rw [← e]; exact h) e
theorem wayJ_none {rec : List Nat → List Nat} {way : List Nat} {a : Nat} : ∀ {r j : Nat}, (wayJ bs M rec way a r j).length = 0 → ∀ j', j ≤ j' → j' < j + r → needsB bs a j' = true → j' ∉ way → wth bs j' < 0 →
      cost (wth bs j') ≤ colSum bs M j' ∧ (wayK M rec way j' bs.length 0).length = 0
  | 0, j, h, j', h1, h2 => by omega
  | r + 1, j, h, j', h1, h2 => by
    intro h3 h4 h5
    rw [wayJ] at h
    by_cases e : j' = j
    · subst e
      rw [if_pos ⟨⟨h3, h4⟩, h5⟩] at h
      by_cases c2 : colSum bs M j' < cost (wth bs j')
      · rw [if_pos c2] at h; simp at h
      · rw [if_neg c2] at h
        by_cases c3 : (wayK M rec way j' bs.length 0).length > 0
        · rw [if_pos c3] at h; omega
        · omega
    · refine wayJ_none (r := r) (j := j + 1) ?_ j' (by omega) (by omega) h3 h4 h5
      by_cases c : (needsB bs a j = true ∧ j ∉ way) ∧ wth bs j < 0
      · rw [if_pos c] at h
        by_cases c2 : colSum bs M j < cost (wth bs j)
        · rw [if_pos c2] at h; simp at h
        · rw [if_neg c2] at h
          by_cases c3 : (wayK M rec way j bs.length 0).length > 0
          · rw [if_pos c3] at h; omega
          · rw [if_neg c3] at h; exact h
      · rw [if_neg c] at h; exact h

/-- what the search finds is a way, grown from the one that it was given -/
theorem wayR_some (hi : PayInv bs M) : ∀ (f : Nat) (pre : List Nat) (a : Nat), (pre ++ [a]).Nodup → (∀ x ∈ pre ++ [a], x < bs.length) → 0 < wth bs a → 0 < (wayR bs M f (pre ++ [a])).length →
    ∃ l, wayR bs M f (pre ++ [a]) = pre ++ (a :: l) ∧ PWay bs M (a :: l) ∧ (pre ++ (a :: l)).Nodup ∧ (∀ x ∈ pre ++ (a :: l), x < bs.length) ∧ ∃ hne, colSum bs M ((a :: l).getLast hne) < cost (wth bs ((a :: l).getLast hne))
  | 0, pre, a, _, _, _, h => by simp [wayR] at h
  | f + 1, pre, a, hn, hlt, ha, h => by
    unfold wayR at h ⊢
    have hla : (pre ++ [a]).getLastD 0 = a := by simp
    rw [hla] at h ⊢
    obtain ⟨j, _, hj, h3, h4, h5, h6⟩ := wayJ_some h
    rw [Nat.zero_add] at hj
    rcases h6 with ⟨e, h6⟩ | ⟨e, h6⟩
    · refine ⟨[j], by rw [e]; simp, .last ha h5 h3, ?_, ?_, by simp, by simpa using h6⟩
      · rw [show pre ++ [a, j] = (pre ++ [a]) ++ [j] by simp, List.nodup_append]
        exact ⟨hn, by simp, fun x hx y hy => by simp at hy; subst hy; intro e; subst e; exact h4 hx⟩
      · intro x hx
        rw [show pre ++ [a, j] = (pre ++ [a]) ++ [j] by simp, List.mem_append] at hx
        rcases hx with hx | hx
        · exact hlt x hx
        · simp at hx; omega
    · obtain ⟨k, _, hk, g1, g2, g3, g4⟩ := wayK_some h6
      rw [Nat.zero_add] at hk
      obtain ⟨hne, hwk, _⟩ := hi.edge k j hk hj g1
      have hkj : k ≠ j := fun e => by subst e; omega
      have nd : (((pre ++ [a]) ++ [j]) ++ [k]).Nodup := by
        rw [List.nodup_append]
        refine ⟨?_, by simp, fun x hx y hy => ?_⟩
        · rw [List.nodup_append]
          exact ⟨hn, by simp, fun x hx y hy => by simp at hy; subst hy; intro e; subst e; exact h4 hx⟩
        · simp only [List.mem_singleton] at hy
          subst hy
          intro e; subst e
          rcases List.mem_append.1 hx with hx | hx
          · exact g2 hx
          · simp at hx; exact hkj hx
      have lt2 : ∀ x ∈ ((pre ++ [a]) ++ [j]) ++ [k], x < bs.length := by
        intro x hx
        rcases List.mem_append.1 hx with hx | hx
        · rcases List.mem_append.1 hx with hx | hx
          · exact hlt x hx
          · simp at hx; omega
        · simp at hx; omega
      obtain ⟨l, e2, hw, hnd, hl, hne, hend⟩ := wayR_some hi f ((pre ++ [a]) ++ [j]) k nd lt2 hwk g4
      refine ⟨j :: k :: l, by rw [e, g3, e2]; simp, .more ha h5 h3 g1 hw, by simpa using hnd, by simpa using hl, by simp, by simpa [List.getLast_cons_cons] using hend⟩

/-- simple ways over payments -/
inductive Alt (bs : List Blk) (M : Nat → Nat → Int) : List Nat → Prop
  | one (k : Nat) : Alt bs M [k]
  | step {u v : Nat} {l : List Nat} : PE bs M u v → Alt bs M (v :: l) → Alt bs M (u :: v :: l)

/-- where the search finds nothing, every simple way leads to what is full -/
theorem wayR_none (hi : PayInv bs M) : ∀ (f : Nat) (pre : List Nat) (a : Nat) (l : List Nat), bs.length < f + (pre ++ [a]).length → (pre ++ [a]).Nodup → (∀ x ∈ pre ++ [a], x < bs.length) → 0 < wth bs a → (wayR bs M f (pre ++ [a])).length = 0 →
    Alt bs M (a :: l) → (pre ++ (a :: l)).Nodup → (∀ x ∈ l, x < bs.length) → ∀ hne, wth bs ((a :: l).getLast hne) < 0 → cost (wth bs ((a :: l).getLast hne)) ≤ colSum bs M ((a :: l).getLast hne)
  | 0, pre, a, l, hf, hn, hlt, _, _, _, _, _, _, _ => by
    have := nodup_len hn hlt
    omega
  | f + 1, pre, a, l, hf, hn, hlt, ha, h, hA, hnd, hl, hne, hw => by
    unfold wayR at h
    have hla : (pre ++ [a]).getLastD 0 = a := by simp
    rw [hla] at h
    cases hA with
    | one => simp at hw; omega
    | @step _ j l hE hA =>
      rcases hE with ⟨_, hwj, hnj⟩ | ⟨hE, _⟩
      case inr => omega
      have hj : j < bs.length := hl j (by simp)
      have hnd' := hnd
      rw [List.nodup_append] at hnd'
      obtain ⟨hn1, hn2, hn3⟩ := hnd'
      have hjn : j ∉ pre ++ [a] := by
        intro hm
        rcases List.mem_append.1 hm with hm | hm
        · exact hn3 j hm j (by simp) rfl
        · simp at hm; subst hm; simp at hn2
      obtain ⟨hfull, hK⟩ := wayJ_none h j (Nat.zero_le _) (by omega) hnj hjn hwj
      cases hA with
      | one => simpa using hfull
      | @step _ k l hE hA =>
        rcases hE with ⟨hE, _⟩ | ⟨_, hM⟩
        case inl => omega
        have hk : k < bs.length := hl k (by simp)
        have hkn : k ∉ pre ++ [a] := by
          intro hm
          rcases List.mem_append.1 hm with hm | hm
          · exact hn3 k hm k (by simp) rfl
          · simp at hm; subst hm; simp at hn2
        have hrec := wayK_none hK k (Nat.zero_le _) (by omega) hM hkn
        have hwk := (hi.edge k j hk hj hM).2.1
        have e3 : pre ++ a :: j :: k :: l = ((pre ++ [a]) ++ [j]) ++ (k :: l) := by simp
        have nd2 : (((pre ++ [a]) ++ [j]) ++ [k]).Nodup := by
          rw [e3, show (((pre ++ [a]) ++ [j]) ++ (k :: l)) = (((pre ++ [a]) ++ [j]) ++ [k]) ++ l by simp] at hnd
          exact (List.nodup_append.1 hnd).1
        have := wayR_none hi f ((pre ++ [a]) ++ [j]) k l (by simp at hf ⊢; omega) nd2 (by
          intro x hx
          rcases List.mem_append.1 hx with hx | hx
          · rcases List.mem_append.1 hx with hx | hx
            · exact hlt x hx
            · simp at hx; omega
          · simp at hx; omega) hwk hrec hA (by rw [← e3]; exact hnd) (fun x hx => hl x (by simp [hx])) (by simp) (by simpa [List.getLast_cons_cons] using hw)
        simpa [List.getLast_cons_cons] using this

theorem Alt.snoc : ∀ {l : List Nat} {u v : Nat}, Alt bs M (l ++ [u]) → PE bs M u v → Alt bs M (l ++ [u] ++ [v])
  | [], u, v, _, h => .step h (.one v)
  | [x], u, v, hA, h => by
    cases hA with
    | step e hA => exact .step e (.step h (.one v))
  | x :: y :: l, u, v, hA, h => by
    cases hA with
    | step e hA => exact .step e (Alt.snoc (l := y :: l) hA h)
theorem Alt.pre : ∀ {l r : List Nat} {u : Nat}, Alt bs M (l ++ [u] ++ r) → Alt bs M (l ++ [u])
  | [], r, u, _ => .one u
  | [x], r, u, hA => by
    cases hA with
    | step e hA => exact .step e (.one u)
  | x :: y :: l, r, u, hA => by
    cases hA with
    | step e hA => exact .step e (Alt.pre (l := y :: l) (r := r) hA)

open Classical in
/-- where the search finds nothing, what is reached shuts -/
theorem wayR_shut (hi : PayInv bs M) {k f : Nat} (hk : k < bs.length) (hf : bs.length ≤ f) (hw : 0 < wth bs k) (h : (wayR bs M f [k]).length = 0) : ∃ X, Shut bs M X ∧ X k = true := by
  refine ⟨fun v => decide (∃ l, Alt bs M (l ++ [v]) ∧ (l ++ [v]).Nodup ∧ (∀ x ∈ l ++ [v], x < bs.length) ∧ (l ++ [v]).head? = some k), ⟨fun u v hu hv h1 h2 => ?_, fun j hj h1 h2 => ?_⟩, ?_⟩
  · simp only [decide_eq_true_eq] at h1 ⊢
    obtain ⟨l, a1, a2, a3, a4⟩ := h1
    by_cases hm : v ∈ l ++ [u]
    · obtain ⟨l1, l2, e⟩ := List.append_of_mem hm
      rw [e] at a1 a2 a3 a4
      have e2 : l1 ++ v :: l2 = l1 ++ [v] ++ l2 := by simp
      rw [e2] at a1 a2 a3 a4
      refine ⟨l1, a1.pre, (List.nodup_append.1 a2).1, fun x hx => a3 x (List.mem_append.2 (.inl hx)), ?_⟩
      cases l1 with
      | nil => simpa using a4
      | cons x l1 => simpa using a4
    · refine ⟨l ++ [u], a1.snoc h2, ?_, fun x hx => ?_, ?_⟩
      · rw [List.nodup_append]; exact ⟨a2, by simp, fun x hx y hy => by simp at hy; subst hy; intro e; subst e; exact hm hx⟩
      · rcases List.mem_append.1 hx with hx | hx
        · exact a3 x hx
        · simp at hx; omega
      · cases l with
        | nil => simpa using a4
        | cons x l => simpa using a4
  · simp only [decide_eq_true_eq] at h1
    obtain ⟨l, a1, a2, a3, a4⟩ := h1
    cases l with
    | nil => simp at a4; subst a4; omega
    | cons x l =>
      simp at a4; subst a4
      have elast : (x :: (l ++ [j])).getLast (by simp) = j := by rw [List.getLast_cons (by simp)]; simp
      have := wayR_none hi f [] x (l ++ [j]) (by simp; omega) (by simp) (by simpa using hk) hw (by simpa using h) (by simpa using a1) (by simpa using a2) (fun y hy => a3 y (List.mem_cons_of_mem _ hy)) (by simp) (by rw [elast]; exact h2)
      rw [elast] at this
      exact this
  · simp only [decide_eq_true_eq]
    exact ⟨[], Alt.one k, by simp, by simpa using hk, rfl⟩
end Go.Proofs.YtnjpifaphmeepaaDoor
