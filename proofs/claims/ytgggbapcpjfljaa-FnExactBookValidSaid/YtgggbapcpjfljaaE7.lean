/- The law FnExactBookValid, walked: for all arguments, wherever they lie in memory, it returns true, and leaves memory as it was (written by wip/bin/gen_exact.py). -/
import Derived.Test.YtgggbapcpjfljaaG23
import Derived.Test.YtgggbapcpjfljaaG20
import Derived.Deep.RegionHeld3
import Derived.Deep.DeepCutAuto
namespace Go.Proofs.Ytgggbapcpjfljaa
open Go Go.RowKit Go.Sort

set_option maxRecDepth 100000 in
set_option maxHeartbeats 4000000 in
theorem exactBookValid (a0x a0y a0z : Option Addr) (c0x c0y c0z : Nat) (st0 : Int) (l0 : List Lg) (d0 u0 : List Dd) (w : World) (hl0 : l0.length ≤ 9223372036854775807) (hd0 : d0.length ≤ 9223372036854775807) (hu0 : u0.length ≤ 9223372036854775807) (hs0 : RdB w a0x a0y a0z ⟨⟨st0, l0⟩, d0, u0⟩) :
    Calls Try.prog 6 #[.agg #[.int .i64 st0, .slice a0x l0.length c0x, .slice a0y d0.length c0y, .slice a0z u0.length c0z]] w fun e w' => e = .returned (.bool true) ∧ Below w.heap.size w w' := by
  by_cases h0 : szB l0.length d0.length u0.length 1048576 < 0
  · skip
    show Calls Try.prog 6 #[.agg #[.int .i64 st0, .slice a0x l0.length c0x, .slice a0y d0.length c0y, .slice a0z u0.length c0z]] w _
    obtain ⟨X, hX⟩ : ∃ X, w.heap.size = X := ⟨_, rfl⟩
    obtain ⟨W1, hW1⟩ : ∃ W1, W1 = w.alloc (.cells #[.int .i64 st0, .slice a0x l0.length c0x, .slice a0y d0.length c0y, .slice a0z u0.length c0z] 56) := ⟨_, rfl⟩
    have G0 : At W1 (X) [.int .i64 st0, .slice a0x l0.length c0x, .slice a0y d0.length c0y, .slice a0z u0.length c0z] := by rw [hW1]; exact (At.new _ _ _ (by simp [hX]) rfl)
    have b0 : Below w.heap.size w W1 := by rw [hW1]; exact (by repeat (first | with_reducible assumption | exact Below.refl _ _ | refine below_drewN ?_ _ | refine Below.drew ?_ | refine Below.alloc ?_ (by first | omega | (simp; done) | (simp; omega)) _ | refine Below.setCell ?_ (by first | omega | (simp; done) | (simp; omega)) _))
    go_enter Try.func6, Try.ntmps6
    go_wp2_with fail
    rw [← hW1]
    clear hW1
    refine (szBook_any _ _ _ _ _ _ _ _ _ _ _ _ hl0 hd0 hu0 (by omega) (by omega)).mono ?_
    rintro e v0 ⟨rfl, c⟩
    replace G0 := G0.below c
    replace b0 := b0.trans (c.mono b0.size)
    clear c
    go_wp2_with fail
    go_ret
    exact ⟨rfl, b0⟩
  have hq0 := szB_le h0
  have hlb0 : l0.length ≤ 1048576 ∧ d0.length ≤ 1048576 ∧ u0.length ≤ 1048576 := by omega
  clear hq0
  obtain ⟨ok, hR⟩ : ∃ p, bkOk ⟨⟨st0, l0⟩, d0, u0⟩ = p := ⟨_, rfl⟩
  have KS := Lib.hid (show ∀ (g0x g0y g0z n0x n0y n0z : Nat) (w' : World), l0.length ≤ n0x → d0.length ≤ n0y → u0.length ≤ n0z → n0x ≤ 9223372036854775807 → n0y ≤ 9223372036854775807 → n0z ≤ 9223372036854775807 → RdB w' (some ⟨g0x, 0, none⟩) (some ⟨g0y, 0, none⟩) (some ⟨g0z, 0, none⟩) ⟨⟨st0, l0⟩, d0, u0⟩ → Calls Try.prog 29 #[.agg #[.int .i64 st0, .slice (some ⟨g0x, 0, none⟩) l0.length n0x, .slice (some ⟨g0y, 0, none⟩) d0.length n0y, .slice (some ⟨g0z, 0, none⟩) u0.length n0z]] w' (fun e w'' => e = .returned (.bool ok) ∧ Below w'.heap.size w' w'') from by
    intro g0x g0y g0z n0x n0y n0z w' hn0x hn0y hn0z hm0x hm0y hm0z hr0
    have := sbookValid_any (some ⟨g0x, 0, none⟩) (some ⟨g0y, 0, none⟩) (some ⟨g0z, 0, none⟩) n0x n0y n0z st0 l0 d0 u0 w' hlb0.1 hlb0.2.1 hlb0.2.2 hr0
    rw [hR] at this
    exact this)
  have KI := Lib.hid (show ∀ (g0x g0y g0z n0x n0y n0z : Nat) (w' : World), RdB w' (some ⟨g0x, 0, none⟩) (some ⟨g0y, 0, none⟩) (some ⟨g0z, 0, none⟩) ⟨⟨st0, l0⟩, d0, u0⟩ → Calls Try.prog 31 #[.agg #[.int .i64 st0, .slice (some ⟨g0x, 0, none⟩) l0.length n0x, .slice (some ⟨g0y, 0, none⟩) d0.length n0y, .slice (some ⟨g0z, 0, none⟩) u0.length n0z]] w' (fun e w'' => e = .returned (.bool ok) ∧ Below w'.heap.size w' w'') from by
    intro g0x g0y g0z n0x n0y n0z w' hr0
    have := bookValid_any (some ⟨g0x, 0, none⟩) (some ⟨g0y, 0, none⟩) (some ⟨g0z, 0, none⟩) n0x n0y n0z st0 l0 d0 u0 w' hlb0.1 hlb0.2.1 hlb0.2.2 hr0
    rw [hR] at this
    exact this)
  clear hR
  show Calls Try.prog 6 #[.agg #[.int .i64 st0, .slice a0x l0.length c0x, .slice a0y d0.length c0y, .slice a0z u0.length c0z]] w _
  obtain ⟨X, hX⟩ : ∃ X, w.heap.size = X := ⟨_, rfl⟩
  obtain ⟨W1, hW1⟩ : ∃ W1, W1 = w.alloc (.cells #[.int .i64 st0, .slice a0x l0.length c0x, .slice a0y d0.length c0y, .slice a0z u0.length c0z] 56) := ⟨_, rfl⟩
  have G0 : At W1 (X) [.int .i64 st0, .slice a0x l0.length c0x, .slice a0y d0.length c0y, .slice a0z u0.length c0z] := by rw [hW1]; exact (At.new _ _ _ (by simp [hX]) rfl)
  have b0 : Below w.heap.size w W1 := by rw [hW1]; exact (by repeat (first | with_reducible assumption | exact Below.refl _ _ | refine below_drewN ?_ _ | refine Below.drew ?_ | refine Below.alloc ?_ (by first | omega | (simp; done) | (simp; omega)) _ | refine Below.setCell ?_ (by first | omega | (simp; done) | (simp; omega)) _))
  go_enter Try.func6, Try.ntmps6
  go_wp2_with fail
  rw [← hW1]
  clear hW1
  refine (szBook_any _ _ _ _ _ _ _ _ _ _ _ _ hl0 hd0 hu0 (by omega) (by omega)).mono ?_
  rintro e v0 ⟨rfl, c⟩
  replace G0 := G0.below c
  replace b0 := b0.trans (c.mono b0.size)
  clear c
  have hok : (ok != ok) = false := by simp
  obtain ⟨EVw, hEV⟩ : ∃ E, E = v0.heap.size := ⟨_, rfl⟩
  have hle : EVw ≤ v0.heap.size := by omega
  obtain ⟨t0, t1, t2, t3, t4, -⟩ := id G0.facts4
  go_wp2_with fail
  refine (toBook_any _ _ _ _ _ _ st0 l0 d0 u0 _ hlb0.1 hlb0.2.1 hlb0.2.2 (hs0.below b0)).mono ?_
  rintro e w1 ⟨gy0x, gy0y, gy0z, rfl, oy0, c⟩
  clear t0 t1 t2 t3 t4
  replace hle := Nat.le_trans hle c.size
  replace G0 := G0.below c
  replace b0 := b0.trans (c.mono b0.size)
  clear c
  go_wp2_with fail
  refine (KS.out _ _ _ _ _ _ _ (Nat.le_refl _) (Nat.le_refl _) (Nat.le_refl _) (by omega) (by omega) (by omega) oy0.kr).mono ?_
  rintro e w2 ⟨rfl, c⟩
  replace hle := Nat.le_trans hle c.size
  replace G0 := G0.below c
  replace oy0 := oy0.below c
  replace b0 := b0.trans (c.mono b0.size)
  clear c
  clear oy0
  clear hle
  clear hEV
  obtain ⟨E0, hE0⟩ : ∃ E, E = w2.heap.size := ⟨_, rfl⟩
  have vg00 : X < E0 := by rw [hE0]; exact G0.lt
  have ub0 : w.heap.size ≤ E0 := by rw [hE0]; exact b0.size
  obtain ⟨t0, t1, t2, t3, t4, -⟩ := id G0.facts4
  go_wp2_with fail
  refine (toBook_any _ _ _ _ _ _ st0 l0 d0 u0 _ hlb0.1 hlb0.2.1 hlb0.2.2 (hs0.below b0)).mono ?_
  rintro e w3 ⟨gx0x, gx0y, gx0z, rfl, ox0, c⟩
  rw [← hE0] at ox0
  have es0 : E0 ≤ w3.heap.size := by rw [hE0]; exact c.size
  clear t0 t1 t2 t3 t4
  replace G0 := G0.below c
  replace b0 := b0.trans (c.mono b0.size)
  clear c
  go_upto_region 7 with fail
  obtain ⟨Bx0, hY⟩ : ∃ Y, w3.heap.size = Y := ⟨_, rfl⟩
  obtain ⟨w4, hV⟩ : ∃ V, V = w3.alloc (.cells #[.int .i64 st0, .slice (some ⟨gx0x, 0, none⟩) l0.length l0.length, .slice (some ⟨gx0y, 0, none⟩) d0.length d0.length, .slice (some ⟨gx0z, 0, none⟩) u0.length u0.length] 60) := ⟨_, rfl⟩
  have c : Below w3.heap.size w3 w4 := by rw [hV]; exact (by repeat (first | with_reducible assumption | exact Below.refl _ _ | refine below_drewN ?_ _ | refine Below.drew ?_ | refine Below.alloc ?_ (by first | omega | (simp; done) | (simp; omega)) _ | refine Below.setCell ?_ (by first | omega | (simp; done) | (simp; omega)) _))
  have Ax0 : At w4 Bx0 [.int .i64 st0, .slice (some ⟨gx0x, 0, none⟩) l0.length l0.length, .slice (some ⟨gx0y, 0, none⟩) d0.length d0.length, .slice (some ⟨gx0z, 0, none⟩) u0.length u0.length] := by rw [hV]; exact At.new _ _ _ hY.symm rfl
  rw [hY] at es0
  have nx0 : ∀ k, bkBlk (.slice (some ⟨gx0x, 0, none⟩) l0.length l0.length) (.slice (some ⟨gx0y, 0, none⟩) d0.length d0.length) (.slice (some ⟨gx0z, 0, none⟩) u0.length u0.length) k → k < Bx0 := fun k hk => by rw [← hY]; exact (ox0.blk hk).2
  rw [hY, ← hV]
  replace G0 := G0.below c
  replace ox0 := ox0.below c
  replace b0 := b0.trans (c.mono b0.size)
  clear c
  clear hV hY
  clear hE0
  obtain ⟨EVg, hEV⟩ : ∃ E, E = w4.heap.size := ⟨_, rfl⟩
  have hle : EVg ≤ w4.heap.size := by omega
  obtain ⟨t0, t1, t2, t3, t4, -⟩ := id Ax0.facts4
  go_wp2_with fail
  refine (KI.out _ _ _ _ _ _ _ ox0.kr).mono ?_
  rintro e w5 ⟨rfl, c⟩
  clear t0 t1 t2 t3 t4
  replace hle := Nat.le_trans hle c.size
  replace G0 := G0.below c
  replace ox0 := ox0.below c
  replace Ax0 := Ax0.below c
  replace b0 := b0.trans (c.mono b0.size)
  clear c
  clear hle
  clear hEV
  obtain ⟨t0, t1, t2, t3, t4, -⟩ := id Ax0.facts4
  obtain ⟨s0, s1, s2, s3, s4, -⟩ := id G0.facts4
  have hr := hs0.below b0
  have hq := ox0.kr
  go_upto_region 10 with fail
  go_cut [26] (fun p wx => p = .bool false ∧ Below w5.heap.size w5 wx)
  case first =>
    go_region_held3 (fun w' => Below w5.heap.size w5 w' ∧ ∀ b o, b < w5.heap.size → w'.cell? ⟨b, o, none⟩ = w5.cell? ⟨b, o, none⟩) (exact kept (by repeat (first | with_reducible assumption | with_reducible exact Below.refl _ _ | with_reducible refine Below.setCell ?_ (by first | omega | (simp; done) | (simp; omega)) _ | with_reducible refine Below.alloc ?_ (by first | omega | (simp; done) | (simp; omega)) _ | with_reducible refine Below.drew ?_)))
      (first
      | (go_at_call 30; refine (toBook_any _ _ _ _ _ _ st0 l0 d0 u0 _ hlb0.1 hlb0.2.1 hlb0.2.2 (hr.below (by repeat (first | with_reducible assumption | with_reducible exact Below.refl _ _ | with_reducible refine Below.setCell ?_ (by first | omega | (simp; done) | (simp; omega)) _ | with_reducible refine Below.alloc ?_ (by first | omega | (simp; done) | (simp; omega)) _ | with_reducible refine Below.drew ?_)))).mono ?_; rintro e wy ⟨gyx, gyy, gyz, rfl, oy, c⟩; have By := kept_next (V := w5) (by repeat (first | with_reducible assumption | with_reducible exact Below.refl _ _ | with_reducible refine Below.setCell ?_ (by first | omega | (simp; done) | (simp; omega)) _ | with_reducible refine Below.alloc ?_ (by first | omega | (simp; done) | (simp; omega)) _ | with_reducible refine Below.drew ?_)) c; have zy := By.size; clear c)
      | (go_at_call 32; refine (eqBook_any _ _ _ _ _ _ _ _ _ _ _ _ st0 l0 d0 u0 _ (by omega) (by omega) (by omega) (hq.below (by repeat (first | with_reducible assumption | with_reducible exact Below.refl _ _ | with_reducible refine Below.setCell ?_ (by first | omega | (simp; done) | (simp; omega)) _ | with_reducible refine Below.alloc ?_ (by first | omega | (simp; done) | (simp; omega)) _ | with_reducible refine Below.drew ?_))) oy.kr).mono ?_; rintro e wz ⟨rfl, c⟩; have Bz := kept_next (V := w5) (by repeat (first | with_reducible assumption | with_reducible exact Below.refl _ _ | with_reducible refine Below.setCell ?_ (by first | omega | (simp; done) | (simp; omega)) _ | with_reducible refine Below.alloc ?_ (by first | omega | (simp; done) | (simp; omega)) _ | with_reducible refine Below.drew ?_)) c; have zz := Bz.size; clear c))
    all_goals (go_wp2_with fail; go_meet)
    all_goals exact ⟨rfl, (by repeat (first | with_reducible assumption | with_reducible exact Below.refl _ _ | with_reducible refine Below.setCell ?_ (by first | omega | (simp; done) | (simp; omega)) _ | with_reducible refine Below.alloc ?_ (by first | omega | (simp; done) | (simp; omega)) _ | with_reducible refine Below.drew ?_))⟩
  case rest =>
    obtain ⟨rfl, bb⟩ := hcut
    clear t0 t1 t2 t3 t4 s0 s1 s2 s3 s4
    clear hr hq
    replace G0 := G0.below bb
    replace ox0 := ox0.below bb
    replace Ax0 := Ax0.below bb
    replace b0 := b0.trans (bb.mono b0.size)
    clear bb
    go_wp2_with fail
    go_ret
    exact ⟨rfl, b0⟩
end Go.Proofs.Ytgggbapcpjfljaa
