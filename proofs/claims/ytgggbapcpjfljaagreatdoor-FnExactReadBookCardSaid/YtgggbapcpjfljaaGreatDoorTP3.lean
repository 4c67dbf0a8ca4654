/- Walks: numbers read by the reference: spec.l1Read. -/
import Derived.Test.YtgggbapcpjfljaaGreatDoorTP2
namespace Go.Proofs.YtgggbapcpjfljaaGreatDoor
open Go Go.RowKit Go.Sort

theorem digF_range : ∀ (l : List UInt8) (v : Int), 0 ≤ v → -1 ≤ digF v l ∧ digF v l + 1 ≤ (v + 1) * 10 ^ l.length
  | [], v, h => by simp [digF]; omega
  | c :: r, v, h => by
    have hp : (1 : Int) ≤ 10 ^ (c :: r).length := by exact_mod_cast Nat.one_le_pow _ _ (by decide)
    rw [digF]
    split
    · refine ⟨by omega, ?_⟩
      have : (0 : Int) ≤ (v + 1) * 10 ^ (c :: r).length := Int.mul_nonneg (by omega) (by omega)
      omega
    · have ih := digF_range r (10 * v + ((c.toNat : Int) - 48)) (by omega)
      refine ⟨ih.1, Int.le_trans ih.2 ?_⟩
      have hq : (0 : Int) ≤ 10 ^ r.length := by
        have : (1 : Int) ≤ 10 ^ r.length := by exact_mod_cast Nat.one_le_pow _ _ (by decide)
        omega
      have e : (v + 1) * 10 ^ (c :: r).length = ((v + 1) * 10) * 10 ^ r.length := by
        rw [List.length_cons, Int.pow_succ, Int.mul_comm ((10 : Int) ^ r.length) 10, Int.mul_assoc]
      rw [e]
      exact Int.mul_le_mul_of_nonneg_right (by omega) hq
theorem digL_range (l : List UInt8) : -1 ≤ digL l ∧ digL l ≤ 9999 := by
  unfold digL
  split
  · omega
  · rename_i h
    have := digF_range l 0 (by omega)
    have hl : l.length ≤ 4 := by omega
    have hP : (10 : Int) ^ l.length ≤ 10000 := by
      have : l.length = 0 ∨ l.length = 1 ∨ l.length = 2 ∨ l.length = 3 ∨ l.length = 4 := by omega
      rcases this with h | h | h | h | h <;> rw [h] <;> decide
    omega

theorem tail_list (s : ByteArray) : (s.extract 1 s.size).data.toList = s.data.toList.tail := by
  rw [ByteArray.data_extract, Array.toList_extract, List.extract_eq_take_drop]
  show (s.data.toList.drop 1).take (s.size - 1) = _
  rw [List.drop_one, List.take_of_length_le]
  rw [List.length_tail]; exact Nat.le_refl _

set_option maxRecDepth 100000 in
theorem l1Read_any (s : ByteArray) (w : World) :
    Calls Tryz.prog 25 #[.string s] w fun e w' => e = .returned (.int .i64 (rdL s.data.toList)) ∧ w = w' := by
  have i1 := l1Digits_any s
  have i2 := l1Digits_any (s.extract 1 s.size)
  rw [tail_list] at i2
  obtain ⟨t, ht⟩ : ∃ t, s.extract 1 s.size = t := ⟨_, rfl⟩
  rw [ht] at i2
  have hlen : s.data.toList.length = s.size := rfl
  obtain ⟨r1, r2⟩ := digL_range s.data.toList
  obtain ⟨q1, q2⟩ := digL_range s.data.toList.tail
  have hR : rdL s.data.toList = if 1 < s.size ∧ s.data.toList.head? = some 45 ∧ 0 < digL s.data.toList.tail then -digL s.data.toList.tail else if digL s.data.toList < 0 then 9999 else digL s.data.toList := rfl
  have hh : ∀ h : 0 < s.size, s.data.toList.head? = some s[0] := fun h => by
    rw [List.head?_eq_getElem?, List.getElem?_eq_getElem (by omega)]; rfl
  obtain ⟨p, hp⟩ : ∃ p, p = digL s.data.toList := ⟨_, rfl⟩
  obtain ⟨q, hq⟩ : ∃ q, q = digL s.data.toList.tail := ⟨_, rfl⟩
  rw [← hp] at i1 hR r1 r2
  rw [← hq] at i2 hR q1 q2
  obtain ⟨R, hRR⟩ : ∃ R, R = rdL s.data.toList := ⟨_, rfl⟩
  rw [← hRR] at hR ⊢
  clear hp hq hRR hlen
  have rest : (R = if p < 0 then 9999 else p) → (¬ 1 < s.size ∨ (∃ h : 0 < s.size, ¬ s[0] = 45) ∨ q ≤ 0) → Calls Tryz.prog 25 #[.string s] w fun e w' => e = .returned (.int .i64 R) ∧ w = w' := by
    intro hR2 hcase
    by_cases hp0 : p < 0
    · rw [if_pos hp0] at hR2
      by_cases h1 : 1 < s.size
      · by_cases h2 : s[0] = 45
        · have h3 : q ≤ 0 := by
            rcases hcase with h | ⟨_, h⟩ | h
            · exact absurd h1 h
            · exact absurd h2 h
            · exact h
          clear hcase hR hh
          subst hR2
          go_enter Tryz.func25, Tryz.ntmps25
          go_wp2_with (go_at_call 53; (first | with_reducible refine (i2 _).mono ?_ | with_reducible refine (i1 _).mono ?_); rintro e w' ⟨rfl, rfl⟩)
          go_ret
          exact ⟨rfl, rfl⟩
        · have h3 : ¬ s[0].toNat = 45 := fun e => h2 (UInt8.toNat_inj.1 e)
          clear hcase hR hh
          subst hR2
          go_enter Tryz.func25, Tryz.ntmps25
          go_wp2_with (go_at_call 53; (first | with_reducible refine (i2 _).mono ?_ | with_reducible refine (i1 _).mono ?_); rintro e w' ⟨rfl, rfl⟩)
          go_ret
          exact ⟨rfl, rfl⟩
      · clear hcase hR hh
        subst hR2
        go_enter Tryz.func25, Tryz.ntmps25
        go_wp2_with (go_at_call 53; (first | with_reducible refine (i2 _).mono ?_ | with_reducible refine (i1 _).mono ?_); rintro e w' ⟨rfl, rfl⟩)
        go_ret
        exact ⟨rfl, rfl⟩
    · rw [if_neg hp0] at hR2
      by_cases h1 : 1 < s.size
      · by_cases h2 : s[0] = 45
        · have h3 : q ≤ 0 := by
            rcases hcase with h | ⟨_, h⟩ | h
            · exact absurd h1 h
            · exact absurd h2 h
            · exact h
          clear hcase hR hh
          subst hR2
          go_enter Tryz.func25, Tryz.ntmps25
          go_wp2_with (go_at_call 53; (first | with_reducible refine (i2 _).mono ?_ | with_reducible refine (i1 _).mono ?_); rintro e w' ⟨rfl, rfl⟩)
          go_ret
          exact ⟨rfl, rfl⟩
        · have h3 : ¬ s[0].toNat = 45 := fun e => h2 (UInt8.toNat_inj.1 e)
          clear hcase hR hh
          subst hR2
          go_enter Tryz.func25, Tryz.ntmps25
          go_wp2_with (go_at_call 53; (first | with_reducible refine (i2 _).mono ?_ | with_reducible refine (i1 _).mono ?_); rintro e w' ⟨rfl, rfl⟩)
          go_ret
          exact ⟨rfl, rfl⟩
      · clear hcase hR hh
        subst hR2
        go_enter Tryz.func25, Tryz.ntmps25
        go_wp2_with (go_at_call 53; (first | with_reducible refine (i2 _).mono ?_ | with_reducible refine (i1 _).mono ?_); rintro e w' ⟨rfl, rfl⟩)
        go_ret
        exact ⟨rfl, rfl⟩
  by_cases h1 : 1 < s.size
  · by_cases h2 : s[0] = 45
    · by_cases h3 : 0 < q
      · rw [if_pos ⟨h1, by rw [hh (by omega), h2], h3⟩] at hR
        clear rest hh
        subst hR
        go_enter Tryz.func25, Tryz.ntmps25
        go_wp2_with (go_at_call 53; (first | with_reducible refine (i2 _).mono ?_ | with_reducible refine (i1 _).mono ?_); rintro e w' ⟨rfl, rfl⟩)
        go_ret
        exact ⟨rfl, rfl⟩
      · exact rest (by rw [hR, if_neg (fun h => h3 h.2.2)]) (.inr (.inr (by omega)))
    · exact rest (by rw [hR, if_neg]; rintro ⟨-, h, -⟩; rw [hh (by omega)] at h; exact h2 (Option.some.inj h)) (.inr (.inl ⟨by omega, h2⟩))
  · exact rest (by rw [hR, if_neg (fun h => h1 h.1)]) (.inl h1)
end Go.Proofs.YtgggbapcpjfljaaGreatDoor
