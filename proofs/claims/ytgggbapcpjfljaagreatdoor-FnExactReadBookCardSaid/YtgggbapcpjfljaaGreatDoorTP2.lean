/- Walks: numbers read by the reference: spec.l1Digits. -/
import Derived.Test.YtgggbapcpjfljaaGreatDoorTP1
namespace Go.Proofs.YtgggbapcpjfljaaGreatDoor
open Go Go.RowKit Go.Sort

theorem l1Digits_any (s : ByteArray) (w : World) :
    Calls Tryz.prog 53 #[.string s] w fun e w' => e = .returned (.int .i64 (digL s.data.toList)) ∧ w = w' := by
  have hlen : s.data.toList.length = s.size := rfl
  by_cases h1 : s.size < 1 ∨ 4 < s.size
  · have hin : inB (s.size : Int) 1 4 = false := by simp [inB]; omega
    have hL : digL s.data.toList = -1 := by
      unfold digL
      rw [if_pos]
      omega
    have HL := Lib.hid hL
    clear hL
    go_enter Tryz.func53, Tryz.ntmps53
    go_wp2_with (go_at_call 32; refine (l1In_any _ _ _ _).mono ?_; rintro e w' ⟨rfl, rfl⟩)
    go_ret
    exact ⟨by rw [HL.out]; first | done | rfl, rfl⟩
  have hin : inB (s.size : Int) 1 4 = true := by simp [inB]; omega
  by_cases h3 : 1 < s.size ∧ s.data.toList.head? = some 48
  · obtain ⟨h2, h3⟩ := h3
    have h0 : 0 < s.size := by omega
    have hc : s[0] = 48 := by
      have : s.data.toList.head? = some s[0] := by
        rw [List.head?_eq_getElem?, List.getElem?_eq_getElem (by omega)]; rfl
      rw [this] at h3; exact Option.some.inj h3
    have hL : digL s.data.toList = -1 := by
      unfold digL
      rw [if_pos (.inr (.inr ⟨by omega, h3⟩))]
    have HL := Lib.hid hL
    clear hL h3 hlen
    go_enter Tryz.func53, Tryz.ntmps53
    go_wp2_with (go_at_call 32; refine (l1In_any _ _ _ _).mono ?_; rintro e w' ⟨rfl, rfl⟩)
    go_ret
    exact ⟨by rw [HL.out]; first | done | rfl, rfl⟩
  have hL : digL s.data.toList = digF 0 s.data.toList := by
    unfold digL
    rw [if_neg]
    rw [hlen]
    intro h
    rcases h with h | h | h
    · omega
    · omega
    · exact h3 h
  have HL := Lib.hid hL
  have h0 : 0 < s.size := by omega
  have h4 : s.size ≤ 4 := by omega
  have key : 1 < s.size → (s[0].toNat : Int) ≠ 48 := fun h e => by
    apply h3
    refine ⟨h, ?_⟩
    have : s.data.toList.head? = some s[0] := by
      rw [List.head?_eq_getElem?, List.getElem?_eq_getElem (by omega)]; rfl
    rw [this]
    congr 1
    apply UInt8.toNat_inj.1
    show s[0].toNat = 48
    omega
  have hdrop : ∀ j (hj : j < s.size), s.data.toList.drop j = s[j] :: s.data.toList.drop (j + 1) := fun j hj => by
    rw [List.drop_eq_getElem_cons (by omega)]; rfl
  have HDR := Lib.hid hdrop
  clear hL h3 hdrop
  obtain ⟨D, hD⟩ : ∃ D, D = s.data.toList := ⟨_, rfl⟩
  rw [← hD] at HL HDR hlen ⊢
  have hend : D.drop s.size = [] := List.drop_eq_nil_of_le (by omega)
  have HE := Lib.hid hend
  clear hend hD hlen
  by_cases h2 : 1 < s.size
  all_goals
      first
        | have k3 := key h2
          have k4 : ¬ s[0].toNat = 48 := by omega
          clear key
        | clear key
      go_enter Tryz.func53, Tryz.ntmps53
      go_wp2_with (go_at_call 32; refine (l1In_any _ _ _ _).mono ?_; rintro e w' ⟨rfl, rfl⟩)
      go_loopw [3, 4] (fun n k wr => ∃ (j : Nat) (v : Int), j ≤ s.size ∧ n = .int .i64 v ∧ k = .int .i64 j ∧ Hid (digF 0 D = digF v (D.drop j)) ∧ 0 ≤ v ∧ v + 1 ≤ (10 : Int) ^ j ∧ w = wr) (fun _ k _ => s.size - (intOf k).toNat)
      case atStart => exact ⟨0, 0, by omega, rfl, rfl, rfl, by omega, by decide, rfl⟩
      case round =>
        obtain ⟨j, v, hj, rfl, rfl, HR, hv0, hv1, rfl⟩ := hrel
        by_cases hlt : j < s.size
        · have hP : (10 : Int) ^ j ≤ 1000 := by
            have : j = 0 ∨ j = 1 ∨ j = 2 ∨ j = 3 := by omega
            rcases this with rfl | rfl | rfl | rfl <;> decide
          have hP2 : (10 : Int) ^ (j + 1) = 10 ^ j * 10 := Int.pow_succ ..
          have hd := HDR.out j hlt
          obtain ⟨c, hc⟩ : ∃ c, s[j].toNat = c := ⟨_, rfl⟩
          obtain ⟨P, hPP⟩ : ∃ P, P = (10 : Int) ^ j := ⟨_, rfl⟩
          rw [← hPP] at hP hP2 hv1
          clear hPP
          by_cases hbad : c < 48 ∨ 57 < c
          · have hF : digF v (D.drop j) = -1 := by rw [hd]; unfold digF; rw [if_pos (by omega)]
            have HF := Lib.hid hF
            clear hF hd hP hP2
            by_cases hlo : (c : Int) < 48
            · go_wp2
              go_ret
              exact ⟨by rw [HL.out, HR.out, HF.out]; first | done | rfl, rfl⟩
            · have hhi : (57 : Int) < c := by omega
              go_wp2
              go_ret
              exact ⟨by rw [HL.out, HR.out, HF.out]; first | done | rfl, rfl⟩
          · have hF : digF v (D.drop j) = digF (10 * v + ((c : Int) - 48)) (D.drop (j + 1)) := by rw [hd]; rw [digF, hc, if_neg hbad]
            have HF := Lib.hid hF
            have hlo : ¬ (c : Int) < 48 := by omega
            have hhi : ¬ (57 : Int) < c := by omega
            have w1 : IntKind.u8.wrap ((c : Int) - 48) = (c : Int) - 48 := by rw [IntKind.wrap_u8]; omega
            have w2 : IntKind.i64.wrap (10 * v) = 10 * v := by rw [IntKind.wrap_i64]; omega
            have w3 : IntKind.i64.wrap (10 * v + ((c : Int) - 48)) = 10 * v + ((c : Int) - 48) := by rw [IntKind.wrap_i64]; omega
            have w4 : IntKind.i64.wrap ((c : Int) - 48) = (c : Int) - 48 := by rw [IntKind.wrap_i64]; omega
            clear hF hd
            go_wp2
            go_roundw
            case rel => exact ⟨j + 1, 10 * v + ((c : Int) - 48), by omega, rfl, by go_num, by show _ = _; rw [HR.out, HF.out], by omega, by rw [hP2]; omega, by first | rfl | trivial⟩
            case measure => simp [intOf]; omega
        · obtain rfl : j = s.size := by omega
          go_wp2
          go_ret
          exact ⟨by rw [HL.out, HR.out, HE.out]; first | done | rfl, rfl⟩
end Go.Proofs.YtgggbapcpjfljaaGreatDoor
