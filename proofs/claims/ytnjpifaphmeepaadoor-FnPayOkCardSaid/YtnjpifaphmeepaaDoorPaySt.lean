/- The reference's payments, step by step, and the least cut. Plain mathematics. -/
import Derived.Test.YtnjpifaphmeepaaDoorClose
namespace Go.Proofs.YtnjpifaphmeepaaDoor
open Go Go.RowKit

theorem total_congr {bs : List Blk} {M M' : Nat → Nat → Int} (h : ∀ i j, i < bs.length → j < bs.length → M i j = M' i j) : payTotal bs M = payTotal bs M' :=
  sumN_congr fun i hi => sumN_congr fun j hj => h i j hi hj
theorem row_congr {bs : List Blk} {M M' : Nat → Nat → Int} (h : ∀ i j, i < bs.length → j < bs.length → M i j = M' i j) {k : Nat} (hk : k < bs.length) : sumN (M k) bs.length = sumN (M' k) bs.length :=
  sumN_congr fun j hj => h k j hk hj
theorem col_congr {bs : List Blk} {M M' : Nat → Nat → Int} (h : ∀ i j, i < bs.length → j < bs.length → M i j = M' i j) {j : Nat} (hj : j < bs.length) : sumN (fun k => M k j) bs.length = sumN (fun k => M' k j) bs.length :=
  sumN_congr fun i hi => h i j hi hj
theorem PayInv.congr {bs : List Blk} {M M' : Nat → Nat → Int} (hi : PayInv bs M) (h : ∀ i j, i < bs.length → j < bs.length → M i j = M' i j) : PayInv bs M' where
  nonneg k j hk hj := by rw [← h k j hk hj]; exact hi.nonneg k j hk hj
  edge k j hk hj hp := hi.edge k j hk hj (by rw [h k j hk hj]; exact hp)
  row k hk := by rw [← row_congr h hk]; exact hi.row k hk
  col j hj := by rw [← col_congr h hj]; exact hi.col j hj
theorem Shut.congr {bs : List Blk} {M M' : Nat → Nat → Int} {X : Nat → Bool} (hX : Shut bs M X) (h : ∀ i j, i < bs.length → j < bs.length → M i j = M' i j) : Shut bs M' X where
  on u v hu hv h1 h2 := hX.on u v hu hv h1 (by
    rcases h2 with h2 | ⟨h2, h3⟩
    · exact .inl h2
    · exact .inr ⟨h2, by rw [h v u hv hu]; exact h3⟩)
  full j hj h1 h2 := by rw [← col_congr h hj]; exact hX.full j hj h1 h2

structure PaySt (bs : List Blk) (M : Nat → Nat → Int) (X : Nat → Bool) (k : Nat) (n : Int) : Prop where
  inv : PayInv bs M
  shut : Shut bs M X
  done : ∀ u, u < k → u < bs.length → 0 < wth bs u → X u = false → pos (wth bs u) ≤ sumN (M u) bs.length
  cur : k < bs.length → sumN (M k) bs.length ≤ n ∧ (sumN (M k) bs.length = n ∨ X k = true)
  later : ∀ u, k < u → u < bs.length → sumN (M u) bs.length = 0

theorem PaySt.congr {bs : List Blk} {M M' : Nat → Nat → Int} {X : Nat → Bool} {k : Nat} {n : Int} (s : PaySt bs M X k n) (h : ∀ i j, i < bs.length → j < bs.length → M i j = M' i j) : PaySt bs M' X k n where
  inv := s.inv.congr h
  shut := s.shut.congr h
  done u h1 h2 h3 h4 := by rw [← row_congr h h2]; exact s.done u h1 h2 h3 h4
  cur h1 := by rw [← row_congr h h1]; exact s.cur h1
  later u h1 h2 := by rw [← row_congr h h2]; exact s.later u h1 h2
theorem zero_inv (bs : List Blk) : PayInv bs (fun _ _ => 0) where
  nonneg _ _ _ _ := Int.le_refl _
  edge _ _ _ _ h := by omega
  row k _ := by rw [sumN_zero]; exact pos_nonneg' _
  col j _ := by rw [sumN_zero]; exact cost_nonneg' _
theorem PaySt.start (bs : List Blk) : PaySt bs (fun _ _ => 0) (fun _ => false) 0 0 where
  inv := zero_inv bs
  shut := Shut.empty bs _
  done u h := by omega
  cur _ := by rw [sumN_zero]; exact ⟨Int.le_refl _, .inl rfl⟩
  later u _ _ := sumN_zero _
theorem total_zero (bs : List Blk) : payTotal bs (fun _ _ => 0) = 0 := by unfold payTotal; simp only [sumN_zero]
theorem PaySt.next {bs : List Blk} {M : Nat → Nat → Int} {X : Nat → Bool} {k : Nat} {n : Int} (s : PaySt bs M X k n) (_ : 0 ≤ n) (hn : wth bs k ≤ n) : PaySt bs M X (k + 1) 0 where
  inv := s.inv
  shut := s.shut
  done u h1 h2 h3 h4 := by
    by_cases e : u = k
    · subst e
      have h5 := (s.cur h2).2
      rw [h4] at h5
      rcases h5 with h5 | h5
      · rw [h5]; unfold pos; omega
      · cases h5
    · exact s.done u (by omega) h2 h3 h4
  cur h1 := by rw [s.later (k + 1) (by omega) h1]; exact ⟨Int.le_refl _, .inl rfl⟩
  later u h1 h2 := s.later u (by omega) h2
/-- no way is found -/
theorem PaySt.fail {bs : List Blk} {M : Nat → Nat → Int} {X : Nat → Bool} {k : Nat} {n : Int} (s : PaySt bs M X k n) (hk : k < bs.length) (hn : n < wth bs k) (hn0 : 0 ≤ n) (h : (wayR bs M bs.length [k]).length = 0) : ∃ X', PaySt bs M X' k (n + 1) := by
  obtain ⟨Y, hY, hYk⟩ := wayR_shut s.inv hk (Nat.le_refl _) (by omega) h
  refine ⟨fun i => X i || Y i, s.inv, s.shut.union hY, fun u h1 h2 h3 h4 => s.done u h1 h2 h3 (by simp only [Bool.or_eq_false_iff] at h4; exact h4.1), fun _ => ⟨by have := (s.cur hk).1; omega, .inr (by simp [hYk])⟩, s.later⟩
/-- a way is found -/
theorem PaySt.aug {bs : List Blk} {M : Nat → Nat → Int} {X : Nat → Bool} {k : Nat} {n : Int} (s : PaySt bs M X k n) (hk : k < bs.length) (hn : n < wth bs k) (hn0 : 0 ≤ n) (h : 0 < (wayR bs M bs.length [k]).length) :
    PWay bs M (wayR bs M bs.length [k]) ∧ (∀ x ∈ wayR bs M bs.length [k], x < bs.length) ∧ PaySt bs (augPay M (wayR bs M bs.length [k])) X k (n + 1) ∧ payTotal bs (augPay M (wayR bs M bs.length [k])) = payTotal bs M + 1 := by
  obtain ⟨l, e, hw, hnd, hlt, hne, hend⟩ := wayR_some s.inv bs.length [] k (by simp) (by simpa using hk) (by omega) (by simpa using h)
  simp only [List.nil_append] at e hnd hlt
  rw [e]
  have hrow : sumN (M k) bs.length < pos (wth bs k) := by have := (s.cur hk).1; unfold pos; omega
  have o := aug_out l.length l M k (Nat.le_refl _) hw hnd hlt s.inv hrow hend
  have away := s.shut.away hw hne hlt hend
  refine ⟨hw, hlt, ⟨o.inv, s.shut.keep away o.other, fun u h1 h2 h3 h4 => ?_, fun _ => ?_, fun u h1 h2 => ?_⟩, o.total⟩
  · rw [o.rows u h2, if_neg (by omega)]
    have := s.done u h1 h2 h3 h4; omega
  · rw [o.rows k hk, if_pos rfl]
    have := s.cur hk
    refine ⟨by omega, ?_⟩
    rcases this.2 with h5 | h5
    · exact .inl (by omega)
    · exact .inr h5
  · rw [o.rows u h2, if_neg (by omega), s.later u h1 h2]; rfl

/-! ### the payments, place by place -/
def augOne (M : Nat → Nat → Int) (way : List Nat) (i : Nat) : Nat → Nat → Int :=
  if i % 2 = 1 then upd2 M (nth way (i - 1)) (nth way i) (M (nth way (i - 1)) (nth way i) + 1) else upd2 M (nth way i) (nth way (i - 1)) (M (nth way i) (nth way (i - 1)) - 1)
def augRun (way : List Nat) : (Nat → Nat → Int) → Nat → Nat → (Nat → Nat → Int)
  | M, _, 0 => M
  | M, i, r + 1 => augRun way (augOne M way i) (i + 1) r
theorem augRun_shift (a b : Nat) (l : List Nat) : ∀ (r i : Nat) (M : Nat → Nat → Int), 1 ≤ i → augRun (a :: b :: l) M (i + 2) r = augRun l M i r
  | 0, _, _, _ => rfl
  | r + 1, i, M, hi => by
    have e : augOne M (a :: b :: l) (i + 2) = augOne M l i := by
      have e1 : nth (a :: b :: l) (i + 2) = nth l i := by simp [nth]
      have e2 : nth (a :: b :: l) (i + 2 - 1) = nth l (i - 1) := by
        rw [show i + 2 - 1 = (i - 1) + 2 by omega]; simp [nth]
      unfold augOne
      rw [e1, e2, Nat.add_mod_right]
    simp only [augRun]
    rw [e]
    exact augRun_shift a b l r (i + 1) _ (by omega)
theorem augRun_pay : ∀ (l : List Nat) (M : Nat → Nat → Int) {bs : List Blk} {M0 : Nat → Nat → Int}, PWay bs M0 l → augRun l M 1 (l.length - 1) = augPay M l := by
  intro l M bs M0 h
  induction h generalizing M with
  | last => rfl
  | @more k j k1 l h1 h2 h3 h4 hw ih =>
    show augRun (k :: j :: k1 :: l) M 1 ((k1 :: l).length - 1 + 2) = _
    show augRun (k :: j :: k1 :: l) (augOne (augOne M (k :: j :: k1 :: l) 1) (k :: j :: k1 :: l) 2) (1 + 2) ((k1 :: l).length - 1) = _
    rw [augRun_shift k j (k1 :: l) _ 1 _ (by omega), ih]
    rfl

/-! ### the least cut -/
theorem best_min_cut {bs : List Blk} (hp : pitOk bs = true) {m : Nat} (hm : IsBest bs m) {S : Nat → Bool} (hS : ClosedS bs S) : cutS bs m.testBit ≤ cutS bs S := by
  have hbit : ∀ i, i < bs.length → (maskOf S bs.length).testBit i = S i := fun i hi => by rw [maskOf_bit]; simp [hi]
  have hcl : ClosedS bs (maskOf S bs.length).testBit := fun i j hi hj h1 h2 => by rw [hbit i hi] at h1; rw [hbit j hj]; exact hS i j hi hj h1 h2
  have h1 := hm.most _ (maskOf_lt S _) ((may_closed hp).2 hcl)
  rw [worth_sum, worth_sum] at h1
  have h2 := cut_worth bs m.testBit
  have h3 := cut_worth bs (maskOf S bs.length).testBit
  have h4 : cutS bs (maskOf S bs.length).testBit = cutS bs S := sumN_congr fun i hi => by rw [hbit i hi]
  omega
theorem full_best {bs : List Blk} (hp : pitOk bs = true) {m : Nat} : IsBest (fullN bs bs.length) m ↔ IsBest bs m := by
  have hpf := fullN_ok hp
  have may : ∀ m, mayOf (fullN bs bs.length) m = true ↔ mayOf bs m = true := fun m => by rw [may_closed hpf, may_closed hp, full_closed hp]
  have wor : ∀ m, worthOf (fullN bs bs.length) m = worthOf bs m := fun m => by rw [worth_sum, worth_sum, full_worthS]
  have len := fullN_len bs bs.length
  constructor
  · intro h
    exact ⟨by have := h.lt; rwa [len] at this, (may m).1 h.may, fun m' h1 h2 => by rw [← wor, ← wor]; exact h.most m' (by rw [len]; exact h1) ((may m').2 h2), fun m' h1 h2 h3 => h.least m' (by rw [len]; exact h1) ((may m').2 h2) (by rw [wor, wor]; exact h3)⟩
  · intro h
    exact ⟨by rw [len]; exact h.lt, (may m).2 h.may, fun m' h1 h2 => by rw [wor, wor]; exact h.most m' (by rw [← len]; exact h1) ((may m').1 h2), fun m' h1 h2 h3 => h.least m' (by rw [← len]; exact h1) ((may m').1 h2) (by rw [← wor, ← wor]; exact h3)⟩

def payMostF (bs : List Blk) : Int := if pitOk bs then cutS bs (bestF bs).toNat.testBit else -1
theorem payMost_spec {bs : List Blk} (hp : pitOk bs = true) {M : Nat → Nat → Int} {X : Nat → Bool} (s : PaySt (fullN bs bs.length) M X bs.length 0) : payTotal (fullN bs bs.length) M = payMostF bs := by
  obtain ⟨m, e, hm⟩ := best_is hp
  have hmf := (full_best hp).2 hm
  obtain ⟨S, hS, hle⟩ := s.shut.cut (full_direct hp) s.inv (fun u hu h1 h2 => s.done u (by rw [fullN_len] at hu; exact hu) hu h1 h2)
  have h1 := best_min_cut (fullN_ok hp) hmf hS
  have h2 := s.inv.le_cut ((may_closed (fullN_ok hp)).1 hmf.may)
  unfold payMostF
  rw [if_pos hp, e]
  rw [full_cut] at h1 h2 hle
  simp only [Int.toNat_natCast]
  rw [full_cut] at h1
  omega
theorem payMost_impl {bs : List Blk} {R : Nat → Nat → Int} {val : Int} {f : Nat → Int} (hp : pitOk bs = true) (h : PitFlow (fullN bs bs.length) R val) (hf : Bfs ((fullN bs bs.length).length + 2) (fullN bs bs.length).length R f) (ht : f ((fullN bs bs.length).length + 1) < 0) : val = payMostF bs := by
  obtain ⟨h1, h2⟩ := reach_best (fullN_ok hp) h hf ht
  have h3 := best_of hp ((full_best hp).1 h1)
  unfold payMostF
  rw [if_pos hp, h3, ← h2, full_cut, Int.toNat_natCast]
end Go.Proofs.YtnjpifaphmeepaaDoor
