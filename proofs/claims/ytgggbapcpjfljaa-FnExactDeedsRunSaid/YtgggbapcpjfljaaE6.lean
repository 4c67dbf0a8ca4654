/- The law FnExactDeedsRun, walked: for all arguments, wherever they lie in memory, it returns true, and leaves memory as it was (written by wip/bin/gen_exact.py). -/
import Derived.Test.YtgggbapcpjfljaaG21
import Derived.Test.YtgggbapcpjfljaaG17
import Derived.Test.YtgggbapcpjfljaaG20
import Derived.Deep.RegionHeld3
import Derived.Deep.DeepCutAuto
namespace Go.Proofs.Ytgggbapcpjfljaa
open Go Go.RowKit Go.Sort

set_option maxRecDepth 100000 in
set_option maxHeartbeats 4000000 in
theorem exactDeedsRun (a0 : Option Addr) (c0 : Nat) (st0 : Int) (l0 : List Lg) (a1 : Option Addr) (c1 : Nat) (l1 : List Dd) (w : World) (hl0 : l0.length ≤ 9223372036854775807) (hs0 : Legs w a0 l0) (hl1 : l1.length ≤ 9223372036854775807) (hs1 : Dds w a1 l1) :
    Calls Try.prog 5 #[.agg #[.int .i64 st0, .slice a0 l0.length c0], .slice a1 l1.length c1] w fun e w' => e = .returned (.bool true) ∧ Below w.heap.size w w' := by
  by_cases h0 : szL l0.length 1048576 < 0
  · skip
    show Calls Try.prog 5 #[.agg #[.int .i64 st0, .slice a0 l0.length c0], .slice a1 l1.length c1] w _
    obtain ⟨X, hX⟩ : ∃ X, w.heap.size = X := ⟨_, rfl⟩
    obtain ⟨W1, hW1⟩ : ∃ W1, W1 = w.alloc (.cells #[.int .i64 st0, .slice a0 l0.length c0] 24) := ⟨_, rfl⟩
    have G0 : At W1 (X) [.int .i64 st0, .slice a0 l0.length c0] := by rw [hW1]; exact (At.new _ _ _ (by simp [hX]) rfl)
    have b0 : Below w.heap.size w W1 := by rw [hW1]; exact (by repeat (first | with_reducible assumption | exact Below.refl _ _ | refine below_drewN ?_ _ | refine Below.drew ?_ | refine Below.alloc ?_ (by first | omega | (simp; done) | (simp; omega)) _ | refine Below.setCell ?_ (by first | omega | (simp; done) | (simp; omega)) _))
    go_enter Try.func5, Try.ntmps5
    go_wp2_with fail
    rw [← hW1]
    clear hW1
    refine (szSurvey_any _ _ _ _ _ _ hl0 (by omega) (by omega)).mono ?_
    rintro e v0 ⟨rfl, c⟩
    replace G0 := G0.below c
    replace b0 := b0.trans (c.mono b0.size)
    clear c
    go_wp2_with fail
    go_ret
    exact ⟨rfl, b0⟩
  obtain ⟨hq0, -⟩ := szL_le h0
  have hp0 := (szL_range l0.length 1048576 (by omega)).2
  by_cases h1 : szL l1.length (szL l0.length 1048576) < 0
  · skip
    show Calls Try.prog 5 #[.agg #[.int .i64 st0, .slice a0 l0.length c0], .slice a1 l1.length c1] w _
    obtain ⟨X, hX⟩ : ∃ X, w.heap.size = X := ⟨_, rfl⟩
    obtain ⟨W1, hW1⟩ : ∃ W1, W1 = w.alloc (.cells #[.int .i64 st0, .slice a0 l0.length c0] 24) := ⟨_, rfl⟩
    have G0 : At W1 (X) [.int .i64 st0, .slice a0 l0.length c0] := by rw [hW1]; exact (At.new _ _ _ (by simp [hX]) rfl)
    have b0 : Below w.heap.size w W1 := by rw [hW1]; exact (by repeat (first | with_reducible assumption | exact Below.refl _ _ | refine below_drewN ?_ _ | refine Below.drew ?_ | refine Below.alloc ?_ (by first | omega | (simp; done) | (simp; omega)) _ | refine Below.setCell ?_ (by first | omega | (simp; done) | (simp; omega)) _))
    go_enter Try.func5, Try.ntmps5
    go_wp2_with fail
    rw [← hW1]
    clear hW1
    refine (szSurvey_any _ _ _ _ _ _ hl0 (by omega) (by omega)).mono ?_
    rintro e v0 ⟨rfl, c⟩
    replace G0 := G0.below c
    replace b0 := b0.trans (c.mono b0.size)
    clear c
    go_wp2_with fail
    refine (szDds_any _ _ _ _ _ hl1 (by omega) (by omega)).mono ?_
    rintro e v1 ⟨rfl, rfl⟩
    go_wp2_with fail
    go_ret
    exact ⟨rfl, b0⟩
  obtain ⟨hq1, -⟩ := szL_le h1
  have hp1 := (szL_range l1.length (szL l0.length 1048576) (by omega)).2
  have hlb0 : l0.length ≤ 1048576 := by omega
  have hlb1 : l1.length ≤ 1048576 := by omega
  clear hq0 hq1
  obtain ⟨⟨⟨rst, rl⟩, many⟩, hR⟩ : ∃ p, ddRun ⟨st0, l0⟩ l1 = p := ⟨_, rfl⟩
  have KS := Lib.hid (show ∀ (g0 n0 : Nat) (g1 n1 : Nat) (w' : World), l0.length ≤ n0 → n0 ≤ 9223372036854775807 → l1.length ≤ n1 → n1 ≤ 9223372036854775807 → Legs w' (some ⟨g0, 0, none⟩) l0 → Dds w' (some ⟨g1, 0, none⟩) l1 → Calls Try.prog 23 #[.agg #[.int .i64 st0, .slice (some ⟨g0, 0, none⟩) l0.length n0], .slice (some ⟨g1, 0, none⟩) l1.length n1] w' (fun e w'' => ∃ (ra : Option Addr) (rc : Nat), e = .returned (.tuple #[.agg #[.int .i64 rst, .slice ra rl.length rc], .int .i64 (many : Int)]) ∧ OwnL w'' w'.heap.size (.slice ra rl.length rc) rl ∧ Below w'.heap.size w' w'') from by
    intro g0 n0 g1 n1 w' hn0 hm0 hn1 hm1 hr0 hr1
    have := sdeedsRun_any (some ⟨g0, 0, none⟩) n0 st0 l0 (some ⟨g1, 0, none⟩) n1 l1 w' hlb0 hlb1 hr0 hr1
    rw [hR] at this
    refine this.mono ?_
    rintro e w'' ⟨v, rfl, o, b⟩
    obtain ⟨a, c, rfl⟩ := o.sl
    exact ⟨a, c, rfl, o, b⟩)
  have KI := Lib.hid (show ∀ (g0 n0 : Nat) (g1 n1 : Nat) (w' : World), Legs w' (some ⟨g0, 0, none⟩) l0 → Dds w' (some ⟨g1, 0, none⟩) l1 → Calls Try.prog 25 #[.agg #[.int .i64 st0, .slice (some ⟨g0, 0, none⟩) l0.length n0], .slice (some ⟨g1, 0, none⟩) l1.length n1] w' (fun e w'' => ∃ (ra : Option Addr) (rc : Nat), e = .returned (.tuple #[.agg #[.int .i64 rst, .slice ra rl.length rc], .int .i64 (many : Int)]) ∧ OwnL w'' w'.heap.size (.slice ra rl.length rc) rl ∧ Below w'.heap.size w' w'') from by
    intro g0 n0 g1 n1 w' hr0 hr1
    have := deedsRun_any (some ⟨g0, 0, none⟩) n0 st0 l0 (some ⟨g1, 0, none⟩) n1 l1 w' hlb0 hlb1 hr0 hr1
    rw [hR] at this
    refine this.mono ?_
    rintro e w'' ⟨v, rfl, o, b⟩
    obtain ⟨a, c, rfl⟩ := o.sl
    exact ⟨a, c, rfl, o, b⟩)
  have hrl : rl.length ≤ 1048580 := by
    have := ddRun_len ⟨st0, l0⟩ l1
    rw [hR] at this
    simp only at this
    omega
  clear hR
  show Calls Try.prog 5 #[.agg #[.int .i64 st0, .slice a0 l0.length c0], .slice a1 l1.length c1] w _
  obtain ⟨X, hX⟩ : ∃ X, w.heap.size = X := ⟨_, rfl⟩
  obtain ⟨W1, hW1⟩ : ∃ W1, W1 = w.alloc (.cells #[.int .i64 st0, .slice a0 l0.length c0] 24) := ⟨_, rfl⟩
  have G0 : At W1 (X) [.int .i64 st0, .slice a0 l0.length c0] := by rw [hW1]; exact (At.new _ _ _ (by simp [hX]) rfl)
  have b0 : Below w.heap.size w W1 := by rw [hW1]; exact (by repeat (first | with_reducible assumption | exact Below.refl _ _ | refine below_drewN ?_ _ | refine Below.drew ?_ | refine Below.alloc ?_ (by first | omega | (simp; done) | (simp; omega)) _ | refine Below.setCell ?_ (by first | omega | (simp; done) | (simp; omega)) _))
  go_enter Try.func5, Try.ntmps5
  go_wp2_with fail
  rw [← hW1]
  clear hW1
  refine (szSurvey_any _ _ _ _ _ _ hl0 (by omega) (by omega)).mono ?_
  rintro e v0 ⟨rfl, c⟩
  replace G0 := G0.below c
  replace b0 := b0.trans (c.mono b0.size)
  clear c
  go_wp2_with fail
  refine (szDds_any _ _ _ _ _ hl1 (by omega) (by omega)).mono ?_
  rintro e v1 ⟨rfl, rfl⟩
  have hmany : ((many : Int) != (many : Int)) = false := by simp
  obtain ⟨EVw, hEV⟩ : ∃ E, E = v0.heap.size := ⟨_, rfl⟩
  have hle : EVw ≤ v0.heap.size := by omega
  obtain ⟨t0, t1, t2, -⟩ := id G0.facts2
  go_wp2_with fail
  refine (toSurvey_any _ _ _ l0 _ hlb0 (hs0.below b0)).mono ?_
  rintro e w1 ⟨gy0, rfl, oy0, c⟩
  clear t0 t1 t2
  replace hle := Nat.le_trans hle c.size
  replace G0 := G0.below c
  replace b0 := b0.trans (c.mono b0.size)
  clear c
  go_wp2_with fail
  refine (toDdsE_any _ _ l1 _ hlb1 (hs1.below b0)).mono ?_
  rintro e w2 ⟨gy1, rfl, oy1, c⟩
  replace hle := Nat.le_trans hle c.size
  replace G0 := G0.below c
  replace oy0 := oy0.below c
  replace b0 := b0.trans (c.mono b0.size)
  clear c
  go_wp2_with fail
  refine (KS.out _ _ _ _ _ (Nat.le_refl _) (by omega) (Nat.le_refl _) (by omega) oy0.kr oy1.kr).mono ?_
  rintro e w3 ⟨aw, cw, rfl, ow, c⟩
  replace ow := ow.mono hle
  replace hle := Nat.le_trans hle c.size
  replace G0 := G0.below c
  replace oy0 := oy0.below c
  replace oy1 := oy1.below c
  replace b0 := b0.trans (c.mono b0.size)
  clear c
  clear oy0 oy1
  go_upto_region 9 with fail
  obtain ⟨Bw, hY⟩ : ∃ Y, w3.heap.size = Y := ⟨_, rfl⟩
  obtain ⟨w4, hV⟩ : ∃ V, V = w3.alloc (.cells #[.int .i64 rst, .slice aw rl.length cw] 37) := ⟨_, rfl⟩
  have c : Below w3.heap.size w3 w4 := by rw [hV]; exact (by repeat (first | with_reducible assumption | exact Below.refl _ _ | refine below_drewN ?_ _ | refine Below.drew ?_ | refine Below.alloc ?_ (by first | omega | (simp; done) | (simp; omega)) _ | refine Below.setCell ?_ (by first | omega | (simp; done) | (simp; omega)) _))
  have Aw : At w4 Bw [.int .i64 rst, .slice aw rl.length cw] := by rw [hV]; exact At.new _ _ _ hY.symm rfl
  have new : ∀ k, (Value.slice aw rl.length cw).ownBlock = some k → k ≠ Bw := fun k hk => by have := (ow.lt hk).2; omega
  have hBw : EVw ≤ Bw := by omega
  rw [hY, ← hV]
  replace G0 := G0.below c
  replace ow := ow.below c
  replace b0 := b0.trans (c.mono b0.size)
  clear c
  clear hV hY hle
  rw [hEV] at hBw ow
  clear hEV
  obtain ⟨E0, hE0⟩ : ∃ E, E = w4.heap.size := ⟨_, rfl⟩
  have uw0 : ∀ k, (Value.slice aw rl.length cw).ownBlock = some k → k < E0 := fun k hk => by rw [hE0]; exact (ow.lt hk).2
  have vw0 : Bw < E0 := by rw [hE0]; exact Aw.lt
  have vg00 : X < E0 := by rw [hE0]; exact G0.lt
  have ub0 : w.heap.size ≤ E0 := by rw [hE0]; exact b0.size
  obtain ⟨t0, t1, t2, -⟩ := id G0.facts2
  go_wp2_with fail
  refine (toSurvey_any _ _ _ l0 _ hlb0 (hs0.below b0)).mono ?_
  rintro e w5 ⟨gx0, rfl, ox0, c⟩
  rw [← hE0] at ox0
  have es0 : E0 ≤ w5.heap.size := by rw [hE0]; exact c.size
  clear t0 t1 t2
  replace G0 := G0.below c
  replace ow := ow.below c
  replace Aw := Aw.below c
  replace b0 := b0.trans (c.mono b0.size)
  clear c
  go_upto_region 10 with fail
  obtain ⟨Bx0, hY⟩ : ∃ Y, w5.heap.size = Y := ⟨_, rfl⟩
  obtain ⟨w6, hV⟩ : ∃ V, V = w5.alloc (.cells #[.int .i64 st0, .slice (some ⟨gx0, 0, none⟩) l0.length l0.length] 37) := ⟨_, rfl⟩
  have c : Below w5.heap.size w5 w6 := by rw [hV]; exact (by repeat (first | with_reducible assumption | exact Below.refl _ _ | refine below_drewN ?_ _ | refine Below.drew ?_ | refine Below.alloc ?_ (by first | omega | (simp; done) | (simp; omega)) _ | refine Below.setCell ?_ (by first | omega | (simp; done) | (simp; omega)) _))
  have Ax0 : At w6 Bx0 [.int .i64 st0, .slice (some ⟨gx0, 0, none⟩) l0.length l0.length] := by rw [hV]; exact At.new _ _ _ hY.symm rfl
  rw [hY] at es0
  have nx0 : ∀ k, (Value.slice (some ⟨gx0, 0, none⟩) l0.length l0.length).ownBlock = some k → k < Bx0 := fun k hk => by rw [← hY]; exact (ox0.lt hk).2
  rw [hY, ← hV]
  replace G0 := G0.below c
  replace ow := ow.below c
  replace Aw := Aw.below c
  replace ox0 := ox0.below c
  replace b0 := b0.trans (c.mono b0.size)
  clear c
  clear hV hY
  clear hE0
  obtain ⟨E1, hE1⟩ : ∃ E, E = w6.heap.size := ⟨_, rfl⟩
  have uw1 : ∀ k, (Value.slice aw rl.length cw).ownBlock = some k → k < E1 := fun k hk => by rw [hE1]; exact (ow.lt hk).2
  have vw1 : Bw < E1 := by rw [hE1]; exact Aw.lt
  have vg10 : X < E1 := by rw [hE1]; exact G0.lt
  have ub1 : w.heap.size ≤ E1 := by rw [hE1]; exact b0.size
  have ux10 : ∀ k, (Value.slice (some ⟨gx0, 0, none⟩) l0.length l0.length).ownBlock = some k → k < E1 := fun k hk => by rw [hE1]; exact (ox0.lt hk).2
  have vx10 : Bx0 < E1 := by rw [hE1]; exact Ax0.lt
  go_wp2_with fail
  refine (toDdsE_any _ _ l1 _ hlb1 (hs1.below b0)).mono ?_
  rintro e w7 ⟨gx1, rfl, ox1, c⟩
  rw [← hE1] at ox1
  have es1 : E1 ≤ w7.heap.size := by rw [hE1]; exact c.size
  replace G0 := G0.below c
  replace ow := ow.below c
  replace Aw := Aw.below c
  replace ox0 := ox0.below c
  replace Ax0 := Ax0.below c
  replace b0 := b0.trans (c.mono b0.size)
  clear c
  clear hE1
  obtain ⟨Eg, hEg⟩ : ∃ E, E = w7.heap.size := ⟨_, rfl⟩
  have uwg : ∀ k, (Value.slice aw rl.length cw).ownBlock = some k → k < Eg := fun k hk => by rw [hEg]; exact (ow.lt hk).2
  have vwg : Bw < Eg := by rw [hEg]; exact Aw.lt
  have vgg0 : X < Eg := by rw [hEg]; exact G0.lt
  have ubg : w.heap.size ≤ Eg := by rw [hEg]; exact b0.size
  have uxg0 : ∀ k, (Value.slice (some ⟨gx0, 0, none⟩) l0.length l0.length).ownBlock = some k → k < Eg := fun k hk => by rw [hEg]; exact (ox0.lt hk).2
  have vxg0 : Bx0 < Eg := by rw [hEg]; exact Ax0.lt
  have uxg1 : ∀ k, (Value.slice (some ⟨gx1, 0, none⟩) l1.length l1.length).ownBlock = some k → k < Eg := fun k hk => by rw [hEg]; exact (ox1.lt hk).2
  obtain ⟨EVg, hEV⟩ : ∃ E, E = w7.heap.size := ⟨_, rfl⟩
  have hle : EVg ≤ w7.heap.size := by omega
  obtain ⟨t0, t1, t2, -⟩ := id Ax0.facts2
  go_wp2_with fail
  refine (KI.out _ _ _ _ _ ox0.kr ox1.kr).mono ?_
  rintro e w8 ⟨ag, cg, rfl, og, c⟩
  clear t0 t1 t2
  replace og := og.mono hle
  replace hle := Nat.le_trans hle c.size
  replace G0 := G0.below c
  replace ow := ow.below c
  replace Aw := Aw.below c
  replace ox0 := ox0.below c
  replace Ax0 := Ax0.below c
  replace ox1 := ox1.below c
  replace b0 := b0.trans (c.mono b0.size)
  clear c
  go_upto_region 12 with fail
  obtain ⟨Bg, hY⟩ : ∃ Y, w8.heap.size = Y := ⟨_, rfl⟩
  obtain ⟨w9, hV⟩ : ∃ V, V = w8.alloc (.cells #[.int .i64 rst, .slice ag rl.length cg] 37) := ⟨_, rfl⟩
  have c : Below w8.heap.size w8 w9 := by rw [hV]; exact (by repeat (first | with_reducible assumption | exact Below.refl _ _ | refine below_drewN ?_ _ | refine Below.drew ?_ | refine Below.alloc ?_ (by first | omega | (simp; done) | (simp; omega)) _ | refine Below.setCell ?_ (by first | omega | (simp; done) | (simp; omega)) _))
  have Ag : At w9 Bg [.int .i64 rst, .slice ag rl.length cg] := by rw [hV]; exact At.new _ _ _ hY.symm rfl
  have neg : ∀ k, (Value.slice ag rl.length cg).ownBlock = some k → k ≠ Bg := fun k hk => by have := (og.lt hk).2; omega
  have hBg : EVg ≤ Bg := by omega
  rw [hY, ← hV]
  replace G0 := G0.below c
  replace ow := ow.below c
  replace Aw := Aw.below c
  replace ox0 := ox0.below c
  replace Ax0 := Ax0.below c
  replace ox1 := ox1.below c
  replace og := og.below c
  replace b0 := b0.trans (c.mono b0.size)
  clear c
  clear hV hY hle
  rw [hEV] at hBg og
  clear hEV
  rw [← hEg] at hBg og
  clear hEg
  obtain ⟨e0, e1, e2, -⟩ := id Ag.facts2
  obtain ⟨f0, f1, f2, -⟩ := id Aw.facts2
  go_wp2_with fail
  refine (eqSurvey_any _ _ _ _ rst rl _ hrl og.kr ow.kr).mono ?_
  rintro e w10 ⟨rfl, c⟩
  clear e0 e1 e2 f0 f1 f2
  replace G0 := G0.below c
  replace ow := ow.below c
  replace Aw := Aw.below c
  replace ox0 := ox0.below c
  replace Ax0 := Ax0.below c
  replace ox1 := ox1.below c
  replace og := og.below c
  replace Ag := Ag.below c
  replace b0 := b0.trans (c.mono b0.size)
  clear c
  obtain ⟨t0, t1, t2, -⟩ := id Ax0.facts2
  obtain ⟨s0, s1, s2, -⟩ := id G0.facts2
  have hr := hs0.below b0
  have hq := ox0.kr
  go_upto_region 14 with fail
  go_cut [58] (fun p wx => p = .bool false ∧ Below w10.heap.size w10 wx)
  case first =>
    go_region_held3 (fun w' => Below w10.heap.size w10 w' ∧ ∀ b o, b < w10.heap.size → w'.cell? ⟨b, o, none⟩ = w10.cell? ⟨b, o, none⟩) (exact kept (by repeat (first | with_reducible assumption | with_reducible exact Below.refl _ _ | with_reducible refine Below.setCell ?_ (by first | omega | (simp; done) | (simp; omega)) _ | with_reducible refine Below.alloc ?_ (by first | omega | (simp; done) | (simp; omega)) _ | with_reducible refine Below.drew ?_)))
      (first
      | (go_at_call 13; refine (toSurvey_any _ _ _ l0 _ hlb0 (hr.below (by repeat (first | with_reducible assumption | with_reducible exact Below.refl _ _ | with_reducible refine Below.setCell ?_ (by first | omega | (simp; done) | (simp; omega)) _ | with_reducible refine Below.alloc ?_ (by first | omega | (simp; done) | (simp; omega)) _ | with_reducible refine Below.drew ?_)))).mono ?_; rintro e wy ⟨gy, rfl, oy, c⟩; have By := kept_next (V := w10) (by repeat (first | with_reducible assumption | with_reducible exact Below.refl _ _ | with_reducible refine Below.setCell ?_ (by first | omega | (simp; done) | (simp; omega)) _ | with_reducible refine Below.alloc ?_ (by first | omega | (simp; done) | (simp; omega)) _ | with_reducible refine Below.drew ?_)) c; have zy := By.size; clear c)
      | (go_at_call 17; refine (eqSurvey_any _ _ _ _ st0 l0 _ (by omega) (hq.below (by repeat (first | with_reducible assumption | with_reducible exact Below.refl _ _ | with_reducible refine Below.setCell ?_ (by first | omega | (simp; done) | (simp; omega)) _ | with_reducible refine Below.alloc ?_ (by first | omega | (simp; done) | (simp; omega)) _ | with_reducible refine Below.drew ?_))) oy.kr).mono ?_; rintro e wz ⟨rfl, c⟩; have Bz := kept_next (V := w10) (by repeat (first | with_reducible assumption | with_reducible exact Below.refl _ _ | with_reducible refine Below.setCell ?_ (by first | omega | (simp; done) | (simp; omega)) _ | with_reducible refine Below.alloc ?_ (by first | omega | (simp; done) | (simp; omega)) _ | with_reducible refine Below.drew ?_)) c; have zz := Bz.size; clear c))
    all_goals (go_wp2_with fail; go_meet)
    all_goals exact ⟨rfl, (by repeat (first | with_reducible assumption | with_reducible exact Below.refl _ _ | with_reducible refine Below.setCell ?_ (by first | omega | (simp; done) | (simp; omega)) _ | with_reducible refine Below.alloc ?_ (by first | omega | (simp; done) | (simp; omega)) _ | with_reducible refine Below.drew ?_))⟩
  case rest =>
    obtain ⟨rfl, bb⟩ := hcut
    clear t0 t1 t2 s0 s1 s2
    clear hr hq
    replace G0 := G0.below bb
    replace ow := ow.below bb
    replace Aw := Aw.below bb
    replace ox0 := ox0.below bb
    replace Ax0 := Ax0.below bb
    replace ox1 := ox1.below bb
    replace og := og.below bb
    replace Ag := Ag.below bb
    replace b0 := b0.trans (bb.mono b0.size)
    clear bb
    have hr := hs1.below b0
    have hq := ox1.kr
    go_wp2_with fail
    refine (toDdsE_any _ _ l1 _ hlb1 hr).mono ?_
    rintro e w11 ⟨gy, rfl, oy, c⟩
    have hq2 := hq.below c
    replace G0 := G0.below c
    replace ow := ow.below c
    replace Aw := Aw.below c
    replace ox0 := ox0.below c
    replace Ax0 := Ax0.below c
    replace ox1 := ox1.below c
    replace og := og.below c
    replace Ag := Ag.below c
    replace b0 := b0.trans (c.mono b0.size)
    clear c
    go_wp2_with fail
    refine (eqDds_any _ _ _ _ l1 _ (by omega) hq2 oy.kr).mono ?_
    rintro e w12 ⟨rfl, c⟩
    clear hr hq hq2 oy
    replace G0 := G0.below c
    replace ow := ow.below c
    replace Aw := Aw.below c
    replace ox0 := ox0.below c
    replace Ax0 := Ax0.below c
    replace ox1 := ox1.below c
    replace og := og.below c
    replace Ag := Ag.below c
    replace b0 := b0.trans (c.mono b0.size)
    clear c
    obtain ⟨t0, t1, t2, -⟩ := id Ax0.facts2
    go_wp2_with fail
    refine (markSurveyW_any E0 _ _ st0 l0 (1) _ (by omega) (by omega) (by omega) ox0).mono ?_
    rintro e w13 ⟨rfl, om, hw⟩
    clear t0 t1 t2
    replace G0 := G0.block (hw.block _ G0.lt fun hj => by have := (ox0.lt hj).1; omega)
    replace Aw := Aw.block (hw.block _ Aw.lt fun hj => by have := (ox0.lt hj).1; omega)
    replace ow := ow.wr hw (fun j hj h => by have := (ox0.lt h).1; have := uw0 j hj; omega)
    replace Ag := Ag.block (hw.block _ Ag.lt fun hj => by have := uxg0 _ hj; omega)
    replace og := og.wr hw (fun j hj h => by have := uxg0 _ h; have := (og.lt hj).1; omega)
    replace ox1 := ox1.wr hw (fun j hj h => by have := ux10 _ h; have := (ox1.lt hj).1; omega)
    replace b0 := b0.trans (hw.below (B := w.heap.size) b0.size fun j hj => by have := (ox0.lt hj).1; omega)
    clear hw om ox0 Ax0
    have hkk : 0 ≤ 1 + 5 * (l0.length : Int) := by omega
    go_wp2_with fail
    refine (markDdsW_any E1 _ _ l1 (1 + 5 * (l0.length : Int)) _ (by omega) (by omega) (by omega) ox1).mono ?_
    rintro e w14 ⟨rfl, om, hw⟩
    clear hkk
    replace G0 := G0.block (hw.block _ G0.lt fun hj => by have := (ox1.lt hj).1; omega)
    replace Aw := Aw.block (hw.block _ Aw.lt fun hj => by have := (ox1.lt hj).1; omega)
    replace ow := ow.wr hw (fun j hj h => by have := (ox1.lt h).1; have := uw1 j hj; omega)
    replace Ag := Ag.block (hw.block _ Ag.lt fun hj => by have := uxg1 _ hj; omega)
    replace og := og.wr hw (fun j hj h => by have := uxg1 _ h; have := (og.lt hj).1; omega)
    replace b0 := b0.trans (hw.below (B := w.heap.size) b0.size fun j hj => by have := (ox1.lt hj).1; omega)
    clear hw om ox1
    have hkk : 0 ≤ 1 + 5 * (l0.length : Int) + 7 * (l1.length : Int) := by omega
    obtain ⟨e0, e1, e2, -⟩ := id Ag.facts2
    obtain ⟨f0, f1, f2, -⟩ := id Aw.facts2
    go_wp2_with fail
    refine (eqSurvey_any _ _ _ _ rst rl _ hrl og.kr ow.kr).mono ?_
    rintro e w15 ⟨rfl, c⟩
    clear e0 e1 e2 f0 f1 f2
    replace G0 := G0.below c
    replace ow := ow.below c
    replace Aw := Aw.below c
    replace og := og.below c
    replace Ag := Ag.below c
    replace b0 := b0.trans (c.mono b0.size)
    clear c
    clear hkk
    obtain ⟨t0, t1, t2, -⟩ := id Ag.facts2
    go_wp2_with fail
    refine (markSurveyW_any Eg _ _ rst rl (1) _ (by omega) (by omega) (by omega) og).mono ?_
    rintro e w16 ⟨rfl, om, hw⟩
    clear t0 t1 t2
    replace G0 := G0.block (hw.block _ G0.lt fun hj => by have := (og.lt hj).1; omega)
    replace Aw := Aw.block (hw.block _ Aw.lt fun hj => by have := (og.lt hj).1; omega)
    replace ow := ow.wr hw (fun j hj h => by have := (og.lt h).1; have := uwg j hj; omega)
    replace Ag := Ag.block (hw.block _ Ag.lt fun hj => by exact neg _ hj rfl)
    replace b0 := b0.trans (hw.below (B := w.heap.size) b0.size fun j hj => by have := (og.lt hj).1; omega)
    replace og := om
    clear hw om
    have hm1 : 0 ≤ 1 + 5 * (rl.length : Int) := by omega
    have hm2 : ((1 + 5 * (rl.length : Int) : Int) != (1 + 5 * (rl.length : Int) : Int)) = false := by simp
    obtain ⟨t0, t1, t2, -⟩ := id Ag.facts2
    go_wp2_with fail
    refine (heldSurvey_any _ _ _ rst 1 _ (by omega) (by omega) (by omega) og.kr).mono ?_
    rintro e w17 ⟨rfl, c⟩
    clear t0 t1 t2
    replace G0 := G0.below c
    replace ow := ow.below c
    replace Aw := Aw.below c
    replace og := og.below c
    replace Ag := Ag.below c
    replace b0 := b0.trans (c.mono b0.size)
    clear c
    obtain ⟨EVh, hEV⟩ : ∃ E, E = w17.heap.size := ⟨_, rfl⟩
    have hle : EVh ≤ w17.heap.size := by omega
    obtain ⟨t0, t1, t2, -⟩ := id G0.facts2
    go_wp2_with fail
    refine (toSurvey_any _ _ _ l0 _ hlb0 (hs0.below b0)).mono ?_
    rintro e w18 ⟨gy0, rfl, oy0, c⟩
    clear t0 t1 t2
    replace hle := Nat.le_trans hle c.size
    replace G0 := G0.below c
    replace ow := ow.below c
    replace Aw := Aw.below c
    replace og := og.below c
    replace Ag := Ag.below c
    replace b0 := b0.trans (c.mono b0.size)
    clear c
    go_wp2_with fail
    refine (toDdsE_any _ _ l1 _ hlb1 (hs1.below b0)).mono ?_
    rintro e w19 ⟨gy1, rfl, oy1, c⟩
    replace hle := Nat.le_trans hle c.size
    replace G0 := G0.below c
    replace ow := ow.below c
    replace Aw := Aw.below c
    replace og := og.below c
    replace Ag := Ag.below c
    replace oy0 := oy0.below c
    replace b0 := b0.trans (c.mono b0.size)
    clear c
    go_wp2_with fail
    refine (KI.out _ _ _ _ _ oy0.kr oy1.kr).mono ?_
    rintro e w20 ⟨ah, ch, rfl, oh, c⟩
    replace oh := oh.mono hle
    replace hle := Nat.le_trans hle c.size
    replace G0 := G0.below c
    replace ow := ow.below c
    replace Aw := Aw.below c
    replace og := og.below c
    replace Ag := Ag.below c
    replace oy0 := oy0.below c
    replace oy1 := oy1.below c
    replace b0 := b0.trans (c.mono b0.size)
    clear c
    clear oy0 oy1
    go_upto_region 32 with fail
    obtain ⟨Bh, hY⟩ : ∃ Y, w20.heap.size = Y := ⟨_, rfl⟩
    obtain ⟨w21, hV⟩ : ∃ V, V = w20.alloc (.cells #[.int .i64 rst, .slice ah rl.length ch] 37) := ⟨_, rfl⟩
    have c : Below w20.heap.size w20 w21 := by rw [hV]; exact (by repeat (first | with_reducible assumption | exact Below.refl _ _ | refine below_drewN ?_ _ | refine Below.drew ?_ | refine Below.alloc ?_ (by first | omega | (simp; done) | (simp; omega)) _ | refine Below.setCell ?_ (by first | omega | (simp; done) | (simp; omega)) _))
    have Ah : At w21 Bh [.int .i64 rst, .slice ah rl.length ch] := by rw [hV]; exact At.new _ _ _ hY.symm rfl
    have neh : ∀ k, (Value.slice ah rl.length ch).ownBlock = some k → k ≠ Bh := fun k hk => by have := (oh.lt hk).2; omega
    have hBh : EVh ≤ Bh := by omega
    rw [hY, ← hV]
    replace G0 := G0.below c
    replace ow := ow.below c
    replace Aw := Aw.below c
    replace og := og.below c
    replace Ag := Ag.below c
    replace oh := oh.below c
    replace b0 := b0.trans (c.mono b0.size)
    clear c
    clear hV hY hle
    rw [hEV] at hBh oh
    clear hEV
    obtain ⟨e0, e1, e2, -⟩ := id Ah.facts2
    obtain ⟨f0, f1, f2, -⟩ := id Aw.facts2
    go_wp2_with fail
    refine (eqSurvey_any _ _ _ _ rst rl _ hrl oh.kr ow.kr).mono ?_
    rintro e w22 ⟨rfl, c⟩
    clear e0 e1 e2 f0 f1 f2
    replace G0 := G0.below c
    replace ow := ow.below c
    replace Aw := Aw.below c
    replace og := og.below c
    replace Ag := Ag.below c
    replace oh := oh.below c
    replace Ah := Ah.below c
    replace b0 := b0.trans (c.mono b0.size)
    clear c
    obtain ⟨t0, t1, t2, -⟩ := id Ag.facts2
    go_wp2_with fail
    refine (heldSurvey_any _ _ _ rst 1 _ (by omega) (by omega) (by omega) og.kr).mono ?_
    rintro e w23 ⟨rfl, c⟩
    clear t0 t1 t2
    replace G0 := G0.below c
    replace ow := ow.below c
    replace Aw := Aw.below c
    replace og := og.below c
    replace Ag := Ag.below c
    replace oh := oh.below c
    replace Ah := Ah.below c
    replace b0 := b0.trans (c.mono b0.size)
    clear c
    go_wp2_with fail
    go_ret
    exact ⟨rfl, b0⟩
end Go.Proofs.Ytgggbapcpjfljaa
