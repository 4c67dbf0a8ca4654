/- Walks: spec.DeedDo whole. -/
import Derived.Test.YtgggbapcpjfljaaGreatDoorG9
import Derived.Test.YtgggbapcpjfljaaGreatDoorG12
namespace Go.Proofs.YtgggbapcpjfljaaGreatDoor
open Go Go.RowKit Go.Sort

theorem inB_iff {n lo hi : Int} : inB n lo hi = true ↔ lo ≤ n ∧ n ≤ hi := by simp [inB]
theorem inB_no {n lo hi : Int} (h : inB n lo hi = false) : ¬ (lo ≤ n ∧ n ≤ hi) := by
  intro h'; rw [inB_iff.2 h'] at h; cases h
theorem svOk_mem {s : Sv} (h : svOk s = true) {g : Lg} (hg : g ∈ s.legs) : legOk 6 g = true := by
  obtain ⟨h1, h2, h3, h4⟩ := svOk_iff.1 h
  simp only [legsOk, List.all_eq_true] at h4
  exact legOk_six h2 (h4 g hg)

theorem ddDo_not {s : Sv} {d : Dd} (hv : svOk s = true) (h : ∀ t, ddTry s d = some t → svOk t = false) : ddDo s d = (s, false) := by
  cases ht : ddTry s d with
  | none => exact ddDo_none hv ht
  | some t => exact ddDo_fail hv ht (h t ht)

theorem ddTry_some {s t : Sv} {d : Dd} (h : ddTry s d = some t) :
    (d.kind = 0 ∧ 0 ≤ d.index ∧ d.index ≤ s.legs.length ∧ t = ⟨s.st, s.legs.take d.index.toNat ++ d.leg :: s.legs.drop d.index.toNat⟩) ∨
    (d.kind = 1 ∧ 0 ≤ d.index ∧ d.index < s.legs.length ∧ d.leg = noLeg ∧ t = ⟨s.st, s.legs.take d.index.toNat ++ s.legs.drop (d.index.toNat + 1)⟩) ∨
    (d.kind = 2 ∧ 0 ≤ d.index ∧ d.index < s.legs.length ∧ d.leg = noLeg ∧ t = ⟨s.st, s.legs.set d.index.toNat (legBack (nth s.legs d.index.toNat))⟩) ∨
    (d.kind = 3 ∧ 0 ≤ d.index ∧ d.index < s.legs.length ∧ d.leg ≠ nth s.legs d.index.toNat ∧ t = ⟨s.st, s.legs.set d.index.toNat d.leg⟩) ∨
    (d.kind = 4 ∧ d.index = 0 ∧ d.leg = noLeg ∧ t = ⟨s.st + 1, s.legs⟩) ∨ (d.kind = 5 ∧ d.index = 0 ∧ d.leg = noLeg ∧ t = ⟨s.st - 1, s.legs⟩) := by
  unfold ddTry at h
  simp only at h
  split at h
  · rename_i hk
    split at h
    · rename_i hc; cases h; exact .inl ⟨hk, hc.1, hc.2, rfl⟩
    · cases h
  split at h
  · rename_i hk
    split at h
    · rename_i hc; cases h; exact .inr (.inl ⟨hk, hc.1, hc.2.1, hc.2.2, rfl⟩)
    · cases h
  split at h
  · rename_i hk
    split at h
    · rename_i hc; cases h; exact .inr (.inr (.inl ⟨hk, hc.1, hc.2.1, hc.2.2, rfl⟩))
    · cases h
  split at h
  · rename_i hk
    split at h
    · rename_i hc; cases h; exact .inr (.inr (.inr (.inl ⟨hk, hc.1, hc.2.1, hc.2.2, rfl⟩)))
    · cases h
  split at h
  · rename_i hk
    split at h
    · rename_i hc; cases h; exact .inr (.inr (.inr (.inr (.inl ⟨hk, hc.1, hc.2, rfl⟩))))
    · cases h
  split at h
  · rename_i hk
    split at h
    · rename_i hc; cases h; exact .inr (.inr (.inr (.inr (.inr ⟨hk, hc.1, hc.2, rfl⟩))))
    · cases h
  · cases h

theorem ddIn_of {s t : Sv} {d : Dd} (hv : svOk s = true) (ht : ddTry s d = some t) (hk : svOk t = true) : ddIn d = true := by
  obtain ⟨v1, v2, v3, v4⟩ := svOk_iff.1 hv
  unfold ddIn
  rcases ddTry_some ht with ⟨k, h1, h2, rfl⟩ | ⟨k, h1, h2, h3, rfl⟩ | ⟨k, h1, h2, h3, rfl⟩ | ⟨k, h1, h2, h3, rfl⟩ | ⟨k, h1, h2, rfl⟩ | ⟨k, h1, h2, rfl⟩
  · have hm := svOk_mem hk (g := d.leg) (by simp)
    rw [k, if_pos (.inl rfl), hm, inB_iff.2 ⟨by omega, by omega⟩, inB_iff.2 ⟨h1, by omega⟩]; rfl
  · rw [k, if_neg (by omega), h3, inB_iff.2 ⟨by omega, by omega⟩, inB_iff.2 ⟨h1, by omega⟩]; rfl
  · rw [k, if_neg (by omega), h3, inB_iff.2 ⟨by omega, by omega⟩, inB_iff.2 ⟨h1, by omega⟩]; rfl
  · have hm := svOk_mem hk (g := d.leg) (by show d.leg ∈ s.legs.set _ _; exact List.mem_iff_getElem.2 ⟨d.index.toNat, by simp; omega, by simp⟩)
    rw [k, if_pos (.inr rfl), hm, inB_iff.2 ⟨by omega, by omega⟩, inB_iff.2 ⟨h1, by omega⟩]; rfl
  · rw [k, if_neg (by omega), h1, h2]; rfl
  · rw [k, if_neg (by omega), h1, h2]; rfl

theorem ddIn_facts {d : Dd} (h : ddIn d = true) : (d.kind = 0 ∨ d.kind = 1 ∨ d.kind = 2 ∨ d.kind = 3 ∨ d.kind = 4 ∨ d.kind = 5) ∧ (0 ≤ d.index ∧ d.index ≤ 9) ∧ (d.kind = 4 ∨ d.kind = 5 → d.index = 0) ∧ (d.kind ≠ 0 ∧ d.kind ≠ 3 → d.leg = noLeg) := by
  unfold ddIn at h
  simp only [Bool.and_eq_true] at h
  obtain ⟨⟨⟨h1, h2⟩, h3⟩, h4⟩ := h
  rw [inB_iff] at h1 h2
  refine ⟨by omega, h2, fun hk => ?_, fun hk => ?_⟩
  · rcases hk with hk | hk <;> simpa [hk] using h3
  · rw [if_neg (by omega)] at h4; exact of_decide_eq_true h4

set_option maxHeartbeats 2000000 in
theorem sdeedDo_any (a : Option Addr) (c : Nat) (st : Int) (l : List Lg) (d : Dd) (w : World) (hl : l.length ≤ 1048576) (hlc : l.length ≤ c) (hc63 : c ≤ 9223372036854775807) (ha : ∀ ad, a = some ad → ad.spot = none) (hs : Legs w a l) :
    Calls Tryz.prog 13 #[.agg #[.int .i64 st, .slice a l.length c], d.val] w (SvOut (ddDo ⟨st, l⟩ d) w) := by
  cases hv : svOk ⟨st, l⟩
  · exact sdeedDo_bad a c st l d w hl hs hv
  obtain ⟨v1, v2, v3, v4⟩ := svOk_iff.1 hv
  simp only at v1 v2 v3 v4
  cases hin : ddIn d
  · obtain ⟨kd, ix, g⟩ := d
    refine sdeedDo_unin a c st l kd ix g w hl hs hv hin (ddDo_not hv fun t ht => ?_)
    cases hk : svOk t
    · rfl
    · rw [ddIn_of hv ht hk] at hin; cases hin
  obtain ⟨kd, ix, g⟩ := d
  obtain ⟨f1, f2, f3, f4⟩ := ddIn_facts hin
  simp only at f1 f2 f3 f4
  rcases f1 with rfl | rfl | rfl | rfl | rfl | rfl
  · by_cases hi : ix ≤ (l.length : Int)
    · obtain ⟨i, rfl⟩ : ∃ i : Nat, ix = (i : Int) := ⟨ix.toNat, by omega⟩
      have ht : ddTry ⟨st, l⟩ ⟨0, (i : Int), g⟩ = some ⟨st, l.take i ++ g :: l.drop i⟩ := by
        unfold ddTry
        simp only [if_true, Int.toNat_natCast]
        rw [if_pos (by omega)]
      cases a with
      | none => exact sdeedDo_put_none c st l i (by omega) v3 g w hl hs hv hin hlc hc63 ht
      | some ad =>
        obtain ⟨b, o, sp⟩ := ad
        have := ha _ rfl
        simp only at this
        subst this
        exact sdeedDo_put_some b o c st l i (by omega) v3 g w hl hs hv hin hlc hc63 ht
    · exact sdeedDo_off0 a c st l ix g w hl hs hv hin hi (ddDo_not hv fun t ht => by
        rcases ddTry_some ht with ⟨k, h1, h2, _⟩ | ⟨k, _⟩ | ⟨k, _⟩ | ⟨k, _⟩ | ⟨k, _⟩ | ⟨k, _⟩ <;> simp only at * <;> omega)
  · cases hth : inB ix 0 ((l.length : Int) - 1)
    · have := inB_no hth
      exact sdeedDo_off1 a c st l ix g w hl hs hv hin hth (ddDo_not hv fun t ht => by
        rcases ddTry_some ht with ⟨k, _⟩ | ⟨k, h1, h2, _⟩ | ⟨k, h1, h2, _⟩ | ⟨k, h1, h2, _⟩ | ⟨k, _⟩ | ⟨k, _⟩ <;> simp only at * <;> omega)
    · have hb := inB_iff.1 hth
      obtain ⟨i, rfl⟩ : ∃ i : Nat, ix = (i : Int) := ⟨ix.toNat, by omega⟩
      refine sdeedDo_drop a c st l i (by omega) v3 g w hl hs hv hin hth hlc hc63 ?_
      unfold ddTry
      simp only [Int.reduceEq, if_true, if_false, Int.toNat_natCast]
      rw [if_pos ⟨by omega, by omega, f4 (by omega)⟩]
  · cases hth : inB ix 0 ((l.length : Int) - 1)
    · have := inB_no hth
      exact sdeedDo_off2 a c st l ix g w hl hs hv hin hth (ddDo_not hv fun t ht => by
        rcases ddTry_some ht with ⟨k, _⟩ | ⟨k, h1, h2, _⟩ | ⟨k, h1, h2, _⟩ | ⟨k, h1, h2, _⟩ | ⟨k, _⟩ | ⟨k, _⟩ <;> simp only at * <;> omega)
    · have hb := inB_iff.1 hth
      obtain ⟨i, rfl⟩ : ∃ i : Nat, ix = (i : Int) := ⟨ix.toNat, by omega⟩
      refine sdeedDo_turn a c st l i (by omega) v3 g w hl hs hv hin hth (legOk_six v2 (legsOk_nth v4 (by omega))) ?_
      unfold ddTry
      simp only [Int.reduceEq, if_true, if_false, Int.toNat_natCast]
      rw [if_pos ⟨by omega, by omega, f4 (by omega)⟩]
      rfl
  · cases hth : inB ix 0 ((l.length : Int) - 1)
    · have := inB_no hth
      exact sdeedDo_off3 a c st l ix g w hl hs hv hin hth (ddDo_not hv fun t ht => by
        rcases ddTry_some ht with ⟨k, _⟩ | ⟨k, h1, h2, _⟩ | ⟨k, h1, h2, _⟩ | ⟨k, h1, h2, _⟩ | ⟨k, _⟩ | ⟨k, _⟩ <;> simp only at * <;> omega)
    · have hb := inB_iff.1 hth
      obtain ⟨i, rfl⟩ : ∃ i : Nat, ix = (i : Int) := ⟨ix.toNat, by omega⟩
      by_cases he : g = nth l i
      · refine sdeedDo_same a c st l i (by omega) v3 g w hl hs hv hin hth he (ddDo_not hv fun t ht => ?_)
        unfold ddTry at ht
        simp only [Int.reduceEq, if_true, if_false, Int.toNat_natCast] at ht
        rw [if_neg (fun h => h.2.2 he)] at ht
        cases ht
      · refine sdeedDo_set a c st l i (by omega) v3 g w hl hs hv hin hth he ?_
        unfold ddTry
        simp only [Int.reduceEq, if_true, if_false, Int.toNat_natCast]
        rw [if_pos ⟨by omega, by omega, he⟩]
  · obtain rfl := f3 (.inl rfl)
    refine sdeedDo_step4 a c st l g w hl hs hv hin ?_ ⟨v1, v2⟩
    unfold ddTry
    simp only [Int.reduceEq, if_true, if_false]
    rw [if_pos ⟨trivial, f4 (by omega)⟩]
  · obtain rfl := f3 (.inr rfl)
    refine sdeedDo_step5 a c st l g w hl hs hv hin ?_ ⟨v1, v2⟩
    unfold ddTry
    simp only [Int.reduceEq, if_true, if_false]
    rw [if_pos ⟨trivial, f4 (by omega)⟩]
end Go.Proofs.YtgggbapcpjfljaaGreatDoor
