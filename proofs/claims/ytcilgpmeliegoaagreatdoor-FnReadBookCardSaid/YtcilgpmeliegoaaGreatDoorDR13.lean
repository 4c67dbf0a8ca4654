/- Walks of draws: DrawReadBook. -/
import Derived.Test.YtcilgpmeliegoaaGreatDoorR5
import Derived.Test.YtcilgpmeliegoaaGreatDoorR4
import Derived.Test.YtcilgpmeliegoaaGreatDoorT7
import Derived.Test.YtcilgpmeliegoaaGreatDoorB1
set_option linter.unusedSimpArgs false
set_option linter.unusedVariables false
namespace Go.Proofs.YtcilgpmeliegoaaGreatDoor
open Go Go.RowKit Go.Sort

set_option maxRecDepth 100000 in
theorem drawReadBook_any (a : Option Addr) (n c : Nat) (w : World) (hc : n ≤ c) (hn : n ≤ 1048576) (hb : Bytes w a n) : Calls Tryz.prog 12 #[.slice a n c] w (DrawnTx 20001 w) := by
  go_enter Tryz.func12, Tryz.ntmps12
  go_wp2_with fail
  refine (l20Open_any a n c _ hc hn hb).mono ?_
  rintro e w1 ⟨n', c', rfl, hr, b0⟩
  obtain ⟨R, hR⟩ : ∃ R, w.heap.size = R := ⟨_, rfl⟩
  rw [hR] at hr ⊢
  have hwR : w.heap.size ≤ R := by omega
  clear hR
  go_wp2_with fail
  refine (l20Book_any R a n' c' 0 0 _ hr (by omega) (by omega)).mono ?_
  rintro e w2 ⟨⟨⟨st, l⟩, d, u⟩, v1, v2, v3, q, rfl, o, hsz, hq, hr2, u2⟩
  obtain ⟨a1, c1, a2, c2, a3, c3, rfl, rfl, rfl⟩ := o.forms
  have hl : l.length ≤ 10 := hsz.1
  have hdu : d.length + u.length ≤ 41 := hsz.2.1
  replace b0 := upto_new b0 hwR b0.size u2
  simp only at o ⊢
  clear u2 hr
  go_wp2_with fail
  refine (sbookText_any a1 a2 a3 c1 c2 c3 st l d u _ (by omega) (by omega) (by omega) o.kr).mono ?_
  rintro e w3 ⟨rfl, b3⟩
  obtain ⟨t, ht⟩ : ∃ t, bookB ⟨⟨st, l⟩, d, u⟩ = t := ⟨_, rfl⟩
  have htl : t.size ≤ 20000 := by rw [← ht]; exact bookB_le _
  rw [ht]
  clear ht o
  replace hr2 := hr2.below b3
  replace b0 := b0.trans (b3.mono b0.size)
  clear b3
  go_wp2_with fail
  refine (pick_up _ _ _ _ _ _ _ hr2 (by omega) (by omega)).mono ?_
  rintro e w4 ⟨k, rfl, -, -, hr4, u4⟩
  replace b0 := upto_new b0 hwR b0.size (u4 w3.heap.size)
  clear u4 hr2
  by_cases hk : k = 0
  · subst hk
    go_wp2_with fail
    refine (l20Spoil_any R a n' c' _ t _ hr4 (by omega) (by omega)).mono ?_
    rintro e w5 ⟨u, q5, rfl, hu, -, -, u5⟩
    replace b0 := upto_new b0 hwR b0.size u5
    go_wp2_with fail
    go_ret
    exact ⟨u, rfl, by omega, b0⟩
  · have hk' : ((k : Int) == 0) = false := by simpa using hk
    by_cases hk1 : k = 1
    · subst hk1
      have ht1 : IntKind.i64.wrap ((t.size : Int) + 1) = (t.size : Int) + 1 := IntWalk.i64_in _ (by omega)
      go_wp2_with fail
      refine (pick_up _ _ _ _ _ _ _ hr4 (by omega) (by omega)).mono ?_
      rintro e w5 ⟨j, rfl, hj, -, -, u5⟩
      replace hj := hj (by omega)
      replace b0 := upto_new b0 hwR b0.size (u5 w4.heap.size)
      have hj1 : j ≤ t.size := by omega
      have hj2 : (j : Int) ≤ (t.size : Int) := by omega
      go_wp2_with fail
      go_ret
      exact ⟨_, rfl, by first | (simp only [ByteArray.size_extract]; omega) | (simp; omega), b0⟩
    · have hk2 : ((k : Int) == 1) = false := by
        have : (k : Int) ≠ 1 := by omega
        simpa using this
      go_wp2_with fail
      go_ret
      exact ⟨t, rfl, by omega, b0⟩
end Go.Proofs.YtcilgpmeliegoaaGreatDoor
