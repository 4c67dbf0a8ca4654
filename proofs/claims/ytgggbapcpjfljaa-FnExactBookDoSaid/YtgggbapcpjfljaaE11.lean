/- The law FnExactBookDo, walked: for all arguments, wherever they lie in memory, it returns true, and leaves memory as it was (written by wip/bin/gen_exact.py). -/
import Derived.Test.YtgggbapcpjfljaaG27
import Derived.Test.YtgggbapcpjfljaaG20
import Derived.Deep.RegionHeld3
import Derived.Deep.DeepCutAuto
namespace Go.Proofs.Ytgggbapcpjfljaa
open Go Go.RowKit Go.Sort

set_option maxRecDepth 100000 in
set_option maxHeartbeats 4000000 in
theorem exactBookDo (a0x a0y a0z : Option Addr) (c0x c0y c0z : Nat) (st0 : Int) (l0 : List Lg) (d0 u0 : List Dd) (d1 : Dd) (w : World) (hl0 : l0.length ≤ 9223372036854775807) (hd0 : d0.length ≤ 9223372036854775807) (hu0 : u0.length ≤ 9223372036854775807) (hs0 : RdB w a0x a0y a0z ⟨⟨st0, l0⟩, d0, u0⟩) :
    Calls Try.prog 10 #[.agg #[.int .i64 st0, .slice a0x l0.length c0x, .slice a0y d0.length c0y, .slice a0z u0.length c0z], d1.val] w fun e w' => e = .returned (.bool true) ∧ Below w.heap.size w w' := by
  by_cases h0 : szB l0.length d0.length u0.length 1048576 < 0
  · skip
    obtain ⟨kd1, ix1, ⟨x10, x11, x12, x13, x14⟩⟩ := d1
    show Calls Try.prog 10 #[.agg #[.int .i64 st0, .slice a0x l0.length c0x, .slice a0y d0.length c0y, .slice a0z u0.length c0z], .agg #[.int .i64 kd1, .int .i64 ix1, .int .i64 x10, .int .i64 x11, .int .i64 x12, .int .i64 x13, .int .i64 x14]] w _
    obtain ⟨X, hX⟩ : ∃ X, w.heap.size = X := ⟨_, rfl⟩
    obtain ⟨W1, hW1⟩ : ∃ W1, W1 = (w.alloc (.cells #[.int .i64 st0, .slice a0x l0.length c0x, .slice a0y d0.length c0y, .slice a0z u0.length c0z] 56)).alloc (.cells #[.int .i64 kd1, .int .i64 ix1, .int .i64 x10, .int .i64 x11, .int .i64 x12, .int .i64 x13, .int .i64 x14] 28) := ⟨_, rfl⟩
    have G0 : At W1 (X) [.int .i64 st0, .slice a0x l0.length c0x, .slice a0y d0.length c0y, .slice a0z u0.length c0z] := by rw [hW1]; exact ((At.new _ _ _ (by simp [hX]) rfl).alloc _)
    have G1 : At W1 (X + 1) [.int .i64 kd1, .int .i64 ix1, .int .i64 x10, .int .i64 x11, .int .i64 x12, .int .i64 x13, .int .i64 x14] := by rw [hW1]; exact (At.new _ _ _ (by simp [hX]) rfl)
    have b0 : Below w.heap.size w W1 := by rw [hW1]; exact (by repeat (first | with_reducible assumption | exact Below.refl _ _ | refine below_drewN ?_ _ | refine Below.drew ?_ | refine Below.alloc ?_ (by first | omega | (simp; done) | (simp; omega)) _ | refine Below.setCell ?_ (by first | omega | (simp; done) | (simp; omega)) _))
    go_enter Try.func10, Try.ntmps10
    go_wp2_with fail
    rw [← hW1]
    clear hW1
    refine (szBook_any _ _ _ _ _ _ _ _ _ _ _ _ hl0 hd0 hu0 (by omega) (by omega)).mono ?_
    rintro e v0 ⟨rfl, c⟩
    replace G0 := G0.below c
    replace G1 := G1.below c
    replace b0 := b0.trans (c.mono b0.size)
    clear c
    go_wp2_with fail
    go_ret
    exact ⟨rfl, b0⟩
  have hq0 := szB_le h0
  have hlb0 : l0.length ≤ 1048576 ∧ d0.length ≤ 1048576 ∧ u0.length ≤ 1048576 := by omega
  clear hq0
  obtain ⟨kd1, ix1, ⟨x10, x11, x12, x13, x14⟩⟩ := d1
  obtain ⟨⟨⟨⟨rst, rl⟩, rd, ru⟩, ok⟩, hR⟩ : ∃ p, bkDo ⟨⟨st0, l0⟩, d0, u0⟩ ⟨kd1, ix1, ⟨x10, x11, x12, x13, x14⟩⟩ = p := ⟨_, rfl⟩
  have KS := Lib.hid (show ∀ (g0x g0y g0z n0x n0y n0z : Nat) (w' : World), l0.length ≤ n0x → d0.length ≤ n0y → u0.length ≤ n0z → n0x ≤ 9223372036854775807 → n0y ≤ 9223372036854775807 → n0z ≤ 9223372036854775807 → RdB w' (some ⟨g0x, 0, none⟩) (some ⟨g0y, 0, none⟩) (some ⟨g0z, 0, none⟩) ⟨⟨st0, l0⟩, d0, u0⟩ → Calls Try.prog 41 #[.agg #[.int .i64 st0, .slice (some ⟨g0x, 0, none⟩) l0.length n0x, .slice (some ⟨g0y, 0, none⟩) d0.length n0y, .slice (some ⟨g0z, 0, none⟩) u0.length n0z], .agg #[.int .i64 kd1, .int .i64 ix1, .int .i64 x10, .int .i64 x11, .int .i64 x12, .int .i64 x13, .int .i64 x14]] w' (fun e w'' => ∃ (rax ray raz : Option Addr) (rcx rcy rcz : Nat), e = .returned (.tuple #[.agg #[.int .i64 rst, .slice rax rl.length rcx, .slice ray rd.length rcy, .slice raz ru.length rcz], .bool ok]) ∧ BkOwn w'' w'.heap.size (.slice rax rl.length rcx) (.slice ray rd.length rcy) (.slice raz ru.length rcz) ⟨⟨rst, rl⟩, rd, ru⟩ ∧ Below w'.heap.size w' w'') from by
    intro g0x g0y g0z n0x n0y n0z w' hn0x hn0y hn0z hm0x hm0y hm0z hr0
    have := sbookDo_any (some ⟨g0x, 0, none⟩) (some ⟨g0y, 0, none⟩) (some ⟨g0z, 0, none⟩) n0x n0y n0z st0 l0 d0 u0 ⟨kd1, ix1, ⟨x10, x11, x12, x13, x14⟩⟩ w' hlb0.1 hlb0.2.1 hlb0.2.2 hr0
    rw [hR] at this
    refine this.mono ?_
    rintro e w'' ⟨v1, v2, v3, rfl, o, b⟩
    obtain ⟨a1, c1, a2, c2, a3, c3, rfl, rfl, rfl⟩ := o.forms
    exact ⟨a1, a2, a3, c1, c2, c3, rfl, o, b⟩)
  have KI := Lib.hid (show ∀ (g0x g0y g0z n0x n0y n0z : Nat) (w' : World), RdB w' (some ⟨g0x, 0, none⟩) (some ⟨g0y, 0, none⟩) (some ⟨g0z, 0, none⟩) ⟨⟨st0, l0⟩, d0, u0⟩ → Calls Try.prog 42 #[.agg #[.int .i64 st0, .slice (some ⟨g0x, 0, none⟩) l0.length n0x, .slice (some ⟨g0y, 0, none⟩) d0.length n0y, .slice (some ⟨g0z, 0, none⟩) u0.length n0z], .agg #[.int .i64 kd1, .int .i64 ix1, .int .i64 x10, .int .i64 x11, .int .i64 x12, .int .i64 x13, .int .i64 x14]] w' (fun e w'' => ∃ (rax ray raz : Option Addr) (rcx rcy rcz : Nat), e = .returned (.tuple #[.agg #[.int .i64 rst, .slice rax rl.length rcx, .slice ray rd.length rcy, .slice raz ru.length rcz], .bool ok]) ∧ BkOwn w'' w'.heap.size (.slice rax rl.length rcx) (.slice ray rd.length rcy) (.slice raz ru.length rcz) ⟨⟨rst, rl⟩, rd, ru⟩ ∧ Below w'.heap.size w' w'') from by
    intro g0x g0y g0z n0x n0y n0z w' hr0
    have := bookDo_any (some ⟨g0x, 0, none⟩) (some ⟨g0y, 0, none⟩) (some ⟨g0z, 0, none⟩) n0x n0y n0z st0 l0 d0 u0 ⟨kd1, ix1, ⟨x10, x11, x12, x13, x14⟩⟩ w' hlb0.1 hlb0.2.1 hlb0.2.2 hr0
    rw [hR] at this
    refine this.mono ?_
    rintro e w'' ⟨v1, v2, v3, rfl, o, b⟩
    obtain ⟨a1, c1, a2, c2, a3, c3, rfl, rfl, rfl⟩ := o.forms
    exact ⟨a1, a2, a3, c1, c2, c3, rfl, o, b⟩)
  have hrl : rl.length ≤ 1048580 ∧ rd.length ≤ 1048580 ∧ ru.length ≤ 1048580 := by
    have := bkDo_len ⟨⟨st0, l0⟩, d0, u0⟩ ⟨kd1, ix1, ⟨x10, x11, x12, x13, x14⟩⟩
    rw [hR] at this
    simp only at this
    omega
  clear hR
  show Calls Try.prog 10 #[.agg #[.int .i64 st0, .slice a0x l0.length c0x, .slice a0y d0.length c0y, .slice a0z u0.length c0z], .agg #[.int .i64 kd1, .int .i64 ix1, .int .i64 x10, .int .i64 x11, .int .i64 x12, .int .i64 x13, .int .i64 x14]] w _
  obtain ⟨X, hX⟩ : ∃ X, w.heap.size = X := ⟨_, rfl⟩
  obtain ⟨W1, hW1⟩ : ∃ W1, W1 = (w.alloc (.cells #[.int .i64 st0, .slice a0x l0.length c0x, .slice a0y d0.length c0y, .slice a0z u0.length c0z] 56)).alloc (.cells #[.int .i64 kd1, .int .i64 ix1, .int .i64 x10, .int .i64 x11, .int .i64 x12, .int .i64 x13, .int .i64 x14] 28) := ⟨_, rfl⟩
  have G0 : At W1 (X) [.int .i64 st0, .slice a0x l0.length c0x, .slice a0y d0.length c0y, .slice a0z u0.length c0z] := by rw [hW1]; exact ((At.new _ _ _ (by simp [hX]) rfl).alloc _)
  have G1 : At W1 (X + 1) [.int .i64 kd1, .int .i64 ix1, .int .i64 x10, .int .i64 x11, .int .i64 x12, .int .i64 x13, .int .i64 x14] := by rw [hW1]; exact (At.new _ _ _ (by simp [hX]) rfl)
  have b0 : Below w.heap.size w W1 := by rw [hW1]; exact (by repeat (first | with_reducible assumption | exact Below.refl _ _ | refine below_drewN ?_ _ | refine Below.drew ?_ | refine Below.alloc ?_ (by first | omega | (simp; done) | (simp; omega)) _ | refine Below.setCell ?_ (by first | omega | (simp; done) | (simp; omega)) _))
  go_enter Try.func10, Try.ntmps10
  go_wp2_with fail
  rw [← hW1]
  clear hW1
  refine (szBook_any _ _ _ _ _ _ _ _ _ _ _ _ hl0 hd0 hu0 (by omega) (by omega)).mono ?_
  rintro e v0 ⟨rfl, c⟩
  replace G0 := G0.below c
  replace G1 := G1.below c
  replace b0 := b0.trans (c.mono b0.size)
  clear c
  have hok : (ok != ok) = false := by simp
  go_upto_region 5 with fail
  have hr0 := hs0.below b0
  obtain ⟨t00, t01, t02, t03, t04, -⟩ := id G0.facts4
  obtain ⟨t10, t11, t12, t13, t14, t15, t16, t17, -⟩ := id G1.facts7
  go_cut [6, 7] (fun p6 p7 wx => p7 = .bool ok ∧ BoxB v0 ⟨⟨rst, rl⟩, rd, ru⟩ p6 wx)
  case first =>
    go_region_held3 (fun w' => Below v0.heap.size v0 w' ∧ ∀ b o, b < v0.heap.size → w'.cell? ⟨b, o, none⟩ = v0.cell? ⟨b, o, none⟩) (exact kept (by repeat (first | with_reducible assumption | with_reducible exact Below.refl _ _ | with_reducible refine Below.setCell ?_ (by first | omega | (simp; done) | (simp; omega)) _ | with_reducible refine Below.alloc ?_ (by first | omega | (simp; done) | (simp; omega)) _ | with_reducible refine Below.drew ?_)))
      (first
      | (go_at_call 30; refine (toBook_any _ _ _ _ _ _ st0 l0 d0 u0 _ hlb0.1 hlb0.2.1 hlb0.2.2 (hr0.below (by repeat (first | with_reducible assumption | with_reducible exact Below.refl _ _ | with_reducible refine Below.setCell ?_ (by first | omega | (simp; done) | (simp; omega)) _ | with_reducible refine Below.alloc ?_ (by first | omega | (simp; done) | (simp; omega)) _ | with_reducible refine Below.drew ?_)))).mono ?_; rintro e wy0 ⟨gy0x, gy0y, gy0z, rfl, oy0, c⟩; have By0 := kept_next (V := v0) (by repeat (first | with_reducible assumption | with_reducible exact Below.refl _ _ | with_reducible refine Below.setCell ?_ (by first | omega | (simp; done) | (simp; omega)) _ | with_reducible refine Below.alloc ?_ (by first | omega | (simp; done) | (simp; omega)) _ | with_reducible refine Below.drew ?_)) c; have zy0 := By0.size; (first | have hA0 := A0.lt | skip); (first | have A0 := A0.below c | have A0 := A0.drew.below c | have A0 := At.born c | have A0 := At.bornD c | skip); (first | obtain ⟨jy00, jy01, jy02, jy03, jy04, jy05⟩ := A0.facts4 | skip); clear c)
      | (go_at_call 14; refine (toBookDeed_any ⟨kd1, ix1, ⟨x10, x11, x12, x13, x14⟩⟩ _).mono ?_; rintro e wy1 ⟨rfl, c⟩; have By1 := kept_next (V := v0) (by repeat (first | with_reducible assumption | with_reducible exact Below.refl _ _ | with_reducible refine Below.setCell ?_ (by first | omega | (simp; done) | (simp; omega)) _ | with_reducible refine Below.alloc ?_ (by first | omega | (simp; done) | (simp; omega)) _ | with_reducible refine Below.drew ?_)) c; have zy1 := By1.size; (first | have hA0 := A0.lt | skip); (first | have A0 := A0.below c | have A0 := A0.drew.below c | have A0 := At.born c | have A0 := At.bornD c | skip); (first | obtain ⟨jy10, jy11, jy12, jy13, jy14, jy15⟩ := A0.facts4 | skip); (first | have oy0 := oy0.below c | have oy0 := oy0.below (al_then c) | skip); clear c)
      | (go_at_call 41; refine (KS.out _ _ _ _ _ _ _ (Nat.le_refl _) (Nat.le_refl _) (Nat.le_refl _) (by omega) (by omega) (by omega) (by first | exact oy0.kr | exact (oy0.alloc _).kr)).mono ?_; rintro e wz ⟨zax, zay, zaz, zcx, zcy, zcz, rfl, oz, c⟩; have Bz := kept_next (V := v0) (by repeat (first | with_reducible assumption | with_reducible exact Below.refl _ _ | with_reducible refine Below.setCell ?_ (by first | omega | (simp; done) | (simp; omega)) _ | with_reducible refine Below.alloc ?_ (by first | omega | (simp; done) | (simp; omega)) _ | with_reducible refine Below.drew ?_)) c; have zz := Bz.size; (first | have hA0 := A0.lt | skip); (first | have A0 := A0.below c | have A0 := A0.drew.below c | have A0 := At.born c | have A0 := At.bornD c | skip); (first | obtain ⟨jz0, jz1, jz2, jz3, jz4, jz5⟩ := A0.facts4 | skip); clear c))
    all_goals (go_wp2_with fail; go_meet)
    all_goals exact ⟨rfl, (by first | with_reducible exact boxB_new (b := ⟨⟨rst, rl⟩, rd, ru⟩) oz (by first | omega | (simp; done) | (simp; omega)) Bz | exact boxB_old (b := ⟨⟨rst, rl⟩, rd, ru⟩) A0 (by first | omega | (simp; done) | (simp; omega)) oz (by first | omega | (simp; done) | (simp; omega)) (by first | exact hA0 | simp) Bz)⟩
  case rest =>
    obtain ⟨rfl, ⟨Bw, awx, awy, awz, cwx, cwy, cwz, rfl, hBw, Aw, ow, new, bb⟩⟩ := hcut
    replace G0 := G0.below bb
    replace G1 := G1.below bb
    replace b0 := b0.trans (bb.mono b0.size)
    clear t00 t01 t02 t03 t04 t10 t11 t12 t13 t14 t15 t16 t17 hr0 bb
    simp only at Aw new
    obtain ⟨E0, hE0⟩ : ∃ E, E = wc.heap.size := ⟨_, rfl⟩
    have uw0 : ∀ k, bkBlk (.slice awx rl.length cwx) (.slice awy rd.length cwy) (.slice awz ru.length cwz) k → k < E0 := fun k hk => by rw [hE0]; exact (ow.blk hk).2
    have vw0 : Bw < E0 := by rw [hE0]; exact Aw.lt
    have vg00 : X < E0 := by rw [hE0]; exact G0.lt
    have vg01 : X + 1 < E0 := by rw [hE0]; exact G1.lt
    have ub0 : w.heap.size ≤ E0 := by rw [hE0]; exact b0.size
    obtain ⟨t0, t1, t2, t3, t4, -⟩ := id G0.facts4
    go_wp2_with fail
    refine (toBook_any _ _ _ _ _ _ st0 l0 d0 u0 _ hlb0.1 hlb0.2.1 hlb0.2.2 (hs0.below b0)).mono ?_
    rintro e w1 ⟨gx0x, gx0y, gx0z, rfl, ox0, c⟩
    rw [← hE0] at ox0
    have es0 : E0 ≤ w1.heap.size := by rw [hE0]; exact c.size
    clear t0 t1 t2 t3 t4
    replace G0 := G0.below c
    replace G1 := G1.below c
    replace Aw := Aw.below c
    replace ow := ow.below c
    replace b0 := b0.trans (c.mono b0.size)
    clear c
    go_upto_region 7 with fail
    obtain ⟨Bx0, hY⟩ : ∃ Y, w1.heap.size = Y := ⟨_, rfl⟩
    obtain ⟨w2, hV⟩ : ∃ V, V = w1.alloc (.cells #[.int .i64 st0, .slice (some ⟨gx0x, 0, none⟩) l0.length l0.length, .slice (some ⟨gx0y, 0, none⟩) d0.length d0.length, .slice (some ⟨gx0z, 0, none⟩) u0.length u0.length] 60) := ⟨_, rfl⟩
    have c : Below w1.heap.size w1 w2 := by rw [hV]; exact (by repeat (first | with_reducible assumption | exact Below.refl _ _ | refine below_drewN ?_ _ | refine Below.drew ?_ | refine Below.alloc ?_ (by first | omega | (simp; done) | (simp; omega)) _ | refine Below.setCell ?_ (by first | omega | (simp; done) | (simp; omega)) _))
    have Ax0 : At w2 Bx0 [.int .i64 st0, .slice (some ⟨gx0x, 0, none⟩) l0.length l0.length, .slice (some ⟨gx0y, 0, none⟩) d0.length d0.length, .slice (some ⟨gx0z, 0, none⟩) u0.length u0.length] := by rw [hV]; exact At.new _ _ _ hY.symm rfl
    rw [hY] at es0
    have nx0 : ∀ k, bkBlk (.slice (some ⟨gx0x, 0, none⟩) l0.length l0.length) (.slice (some ⟨gx0y, 0, none⟩) d0.length d0.length) (.slice (some ⟨gx0z, 0, none⟩) u0.length u0.length) k → k < Bx0 := fun k hk => by rw [← hY]; exact (ox0.blk hk).2
    rw [hY, ← hV]
    replace G0 := G0.below c
    replace G1 := G1.below c
    replace Aw := Aw.below c
    replace ow := ow.below c
    replace ox0 := ox0.below c
    replace b0 := b0.trans (c.mono b0.size)
    clear c
    clear hV hY
    clear hE0
    obtain ⟨Eg, hEg⟩ : ∃ E, E = w2.heap.size := ⟨_, rfl⟩
    have uwg : ∀ k, bkBlk (.slice awx rl.length cwx) (.slice awy rd.length cwy) (.slice awz ru.length cwz) k → k < Eg := fun k hk => by rw [hEg]; exact (ow.blk hk).2
    have vwg : Bw < Eg := by rw [hEg]; exact Aw.lt
    have vgg0 : X < Eg := by rw [hEg]; exact G0.lt
    have vgg1 : X + 1 < Eg := by rw [hEg]; exact G1.lt
    have ubg : w.heap.size ≤ Eg := by rw [hEg]; exact b0.size
    have uxg0 : ∀ k, bkBlk (.slice (some ⟨gx0x, 0, none⟩) l0.length l0.length) (.slice (some ⟨gx0y, 0, none⟩) d0.length d0.length) (.slice (some ⟨gx0z, 0, none⟩) u0.length u0.length) k → k < Eg := fun k hk => by rw [hEg]; exact (ox0.blk hk).2
    have vxg0 : Bx0 < Eg := by rw [hEg]; exact Ax0.lt
    go_upto_region 7 with fail
    have hr0 := ox0.kr
    obtain ⟨t10, t11, t12, t13, t14, t15, t16, t17, -⟩ := id G1.facts7
    obtain ⟨t00, t01, t02, t03, t04, -⟩ := id Ax0.facts4
    go_cut [9, 10] (fun p9 p10 wx => p10 = .bool ok ∧ BoxB w2 ⟨⟨rst, rl⟩, rd, ru⟩ p9 wx)
    case first =>
      go_region_held3 (fun w' => Below w2.heap.size w2 w' ∧ ∀ b o, b < w2.heap.size → w'.cell? ⟨b, o, none⟩ = w2.cell? ⟨b, o, none⟩) (exact kept (by repeat (first | with_reducible assumption | with_reducible exact Below.refl _ _ | with_reducible refine Below.setCell ?_ (by first | omega | (simp; done) | (simp; omega)) _ | with_reducible refine Below.alloc ?_ (by first | omega | (simp; done) | (simp; omega)) _ | with_reducible refine Below.drew ?_)))
        (first
        | (go_at_call 14; refine (toBookDeed_any ⟨kd1, ix1, ⟨x10, x11, x12, x13, x14⟩⟩ _).mono ?_; rintro e wy1 ⟨rfl, c⟩; have By1 := kept_next (V := w2) (by repeat (first | with_reducible assumption | with_reducible exact Below.refl _ _ | with_reducible refine Below.setCell ?_ (by first | omega | (simp; done) | (simp; omega)) _ | with_reducible refine Below.alloc ?_ (by first | omega | (simp; done) | (simp; omega)) _ | with_reducible refine Below.drew ?_)) c; have zy1 := By1.size; (first | have hA0 := A0.lt | skip); (first | have A0 := A0.below c | have A0 := A0.drew.below c | have A0 := At.born c | have A0 := At.bornD c | skip); (first | obtain ⟨jy10, jy11, jy12, jy13, jy14, jy15⟩ := A0.facts4 | skip); clear c)
        | (go_at_call 42; refine (KI.out _ _ _ _ _ _ _ (hr0.below (by repeat (first | with_reducible assumption | with_reducible exact Below.refl _ _ | with_reducible refine Below.setCell ?_ (by first | omega | (simp; done) | (simp; omega)) _ | with_reducible refine Below.alloc ?_ (by first | omega | (simp; done) | (simp; omega)) _ | with_reducible refine Below.drew ?_)))).mono ?_; rintro e wz ⟨zax, zay, zaz, zcx, zcy, zcz, rfl, oz, c⟩; have Bz := kept_next (V := w2) (by repeat (first | with_reducible assumption | with_reducible exact Below.refl _ _ | with_reducible refine Below.setCell ?_ (by first | omega | (simp; done) | (simp; omega)) _ | with_reducible refine Below.alloc ?_ (by first | omega | (simp; done) | (simp; omega)) _ | with_reducible refine Below.drew ?_)) c; have zz := Bz.size; (first | have hA0 := A0.lt | skip); (first | have A0 := A0.below c | have A0 := A0.drew.below c | have A0 := At.born c | have A0 := At.bornD c | skip); (first | obtain ⟨jz0, jz1, jz2, jz3, jz4, jz5⟩ := A0.facts4 | skip); clear c))
      all_goals (go_wp2_with fail; go_meet)
      all_goals exact ⟨rfl, (by first | with_reducible exact boxB_new (b := ⟨⟨rst, rl⟩, rd, ru⟩) oz (by first | omega | (simp; done) | (simp; omega)) Bz | exact boxB_old (b := ⟨⟨rst, rl⟩, rd, ru⟩) A0 (by first | omega | (simp; done) | (simp; omega)) oz (by first | omega | (simp; done) | (simp; omega)) (by first | exact hA0 | simp) Bz)⟩
    case rest =>
      obtain ⟨rfl, ⟨Bg, agx, agy, agz, cgx, cgy, cgz, rfl, hBg, Ag, og, neg, bb⟩⟩ := hcut
      replace G0 := G0.below bb
      replace G1 := G1.below bb
      replace Aw := Aw.below bb
      replace ow := ow.below bb
      replace ox0 := ox0.below bb
      replace Ax0 := Ax0.below bb
      replace b0 := b0.trans (bb.mono b0.size)
      clear t10 t11 t12 t13 t14 t15 t16 t17 t00 t01 t02 t03 t04 hr0 bb
      simp only at Ag neg
      rw [← hEg] at hBg og
      clear hEg
      obtain ⟨e0, e1, e2, e3, e4, -⟩ := id Ag.facts4
      obtain ⟨f0, f1, f2, f3, f4, -⟩ := id Aw.facts4
      go_wp2_with fail
      refine (eqBook_any _ _ _ _ _ _ _ _ _ _ _ _ rst rl rd ru _ hrl.1 hrl.2.1 hrl.2.2 og.kr ow.kr).mono ?_
      rintro e w3 ⟨rfl, c⟩
      clear e0 e1 e2 e3 e4 f0 f1 f2 f3 f4
      replace G0 := G0.below c
      replace G1 := G1.below c
      replace Aw := Aw.below c
      replace ow := ow.below c
      replace ox0 := ox0.below c
      replace Ax0 := Ax0.below c
      replace Ag := Ag.below c
      replace og := og.below c
      replace b0 := b0.trans (c.mono b0.size)
      clear c
      obtain ⟨t0, t1, t2, t3, t4, -⟩ := id Ax0.facts4
      obtain ⟨s0, s1, s2, s3, s4, -⟩ := id G0.facts4
      have hr := hs0.below b0
      have hq := ox0.kr
      go_upto_region 10 with fail
      go_cut [51] (fun p wx => p = .bool false ∧ Below w3.heap.size w3 wx)
      case first =>
        go_region_held3 (fun w' => Below w3.heap.size w3 w' ∧ ∀ b o, b < w3.heap.size → w'.cell? ⟨b, o, none⟩ = w3.cell? ⟨b, o, none⟩) (exact kept (by repeat (first | with_reducible assumption | with_reducible exact Below.refl _ _ | with_reducible refine Below.setCell ?_ (by first | omega | (simp; done) | (simp; omega)) _ | with_reducible refine Below.alloc ?_ (by first | omega | (simp; done) | (simp; omega)) _ | with_reducible refine Below.drew ?_)))
          (first
          | (go_at_call 30; refine (toBook_any _ _ _ _ _ _ st0 l0 d0 u0 _ hlb0.1 hlb0.2.1 hlb0.2.2 (hr.below (by repeat (first | with_reducible assumption | with_reducible exact Below.refl _ _ | with_reducible refine Below.setCell ?_ (by first | omega | (simp; done) | (simp; omega)) _ | with_reducible refine Below.alloc ?_ (by first | omega | (simp; done) | (simp; omega)) _ | with_reducible refine Below.drew ?_)))).mono ?_; rintro e wy ⟨gyx, gyy, gyz, rfl, oy, c⟩; have By := kept_next (V := w3) (by repeat (first | with_reducible assumption | with_reducible exact Below.refl _ _ | with_reducible refine Below.setCell ?_ (by first | omega | (simp; done) | (simp; omega)) _ | with_reducible refine Below.alloc ?_ (by first | omega | (simp; done) | (simp; omega)) _ | with_reducible refine Below.drew ?_)) c; have zy := By.size; clear c)
          | (go_at_call 32; refine (eqBook_any _ _ _ _ _ _ _ _ _ _ _ _ st0 l0 d0 u0 _ (by omega) (by omega) (by omega) (hq.below (by repeat (first | with_reducible assumption | with_reducible exact Below.refl _ _ | with_reducible refine Below.setCell ?_ (by first | omega | (simp; done) | (simp; omega)) _ | with_reducible refine Below.alloc ?_ (by first | omega | (simp; done) | (simp; omega)) _ | with_reducible refine Below.drew ?_))) oy.kr).mono ?_; rintro e wz ⟨rfl, c⟩; have Bz := kept_next (V := w3) (by repeat (first | with_reducible assumption | with_reducible exact Below.refl _ _ | with_reducible refine Below.setCell ?_ (by first | omega | (simp; done) | (simp; omega)) _ | with_reducible refine Below.alloc ?_ (by first | omega | (simp; done) | (simp; omega)) _ | with_reducible refine Below.drew ?_)) c; have zz := Bz.size; clear c))
        all_goals (go_wp2_with fail; go_meet)
        all_goals exact ⟨rfl, (by repeat (first | with_reducible assumption | with_reducible exact Below.refl _ _ | with_reducible refine Below.setCell ?_ (by first | omega | (simp; done) | (simp; omega)) _ | with_reducible refine Below.alloc ?_ (by first | omega | (simp; done) | (simp; omega)) _ | with_reducible refine Below.drew ?_))⟩
      case rest =>
        obtain ⟨rfl, bb⟩ := hcut
        clear t0 t1 t2 t3 t4 s0 s1 s2 s3 s4
        clear hr hq
        replace G0 := G0.below bb
        replace G1 := G1.below bb
        replace Aw := Aw.below bb
        replace ow := ow.below bb
        replace ox0 := ox0.below bb
        replace Ax0 := Ax0.below bb
        replace Ag := Ag.below bb
        replace og := og.below bb
        replace b0 := b0.trans (bb.mono b0.size)
        clear bb
        obtain ⟨t0, t1, t2, t3, t4, -⟩ := id Ax0.facts4
        have zE : E0 ≤ wc.heap.size := by have := Ax0.lt; omega
        go_wp2_with fail
        refine (markBook_any E0 _ _ _ _ _ _ st0 l0 d0 u0 (1) _ (by omega) (by omega) (by omega) (by omega) (by omega) (by omega) ox0).mono ?_
        rintro e w4 ⟨rfl, om, hw⟩
        clear t0 t1 t2 t3 t4
        clear zE
        replace G0 := G0.block (hw.block _ G0.lt fun hj => by have := (ox0.blk hj).1; omega)
        replace G1 := G1.block (hw.block _ G1.lt fun hj => by have := (ox0.blk hj).1; omega)
        replace Aw := Aw.block (hw.block _ Aw.lt fun hj => by have := (ox0.blk hj).1; omega)
        replace ow := ow.wr hw (fun j hj h => by have := (ox0.blk h).1; have := uw0 j hj; omega)
        replace Ag := Ag.block (hw.block _ Ag.lt fun hj => by have := uxg0 _ hj; omega)
        replace og := og.wr hw (fun j hj h => by have := uxg0 _ h; have := (og.blk hj).1; omega)
        replace b0 := b0.trans (hw.below (B := w.heap.size) b0.size fun j hj => by have := (ox0.blk hj).1; omega)
        clear hw om ox0 Ax0
        have hkk : 0 ≤ 1 + 5 * (l0.length : Int) + 7 * (d0.length : Int) + 7 * (u0.length : Int) := by omega
        obtain ⟨e0, e1, e2, e3, e4, -⟩ := id Ag.facts4
        obtain ⟨f0, f1, f2, f3, f4, -⟩ := id Aw.facts4
        go_wp2_with fail
        refine (eqBook_any _ _ _ _ _ _ _ _ _ _ _ _ rst rl rd ru _ hrl.1 hrl.2.1 hrl.2.2 og.kr ow.kr).mono ?_
        rintro e w5 ⟨rfl, c⟩
        clear e0 e1 e2 e3 e4 f0 f1 f2 f3 f4
        replace G0 := G0.below c
        replace G1 := G1.below c
        replace Aw := Aw.below c
        replace ow := ow.below c
        replace Ag := Ag.below c
        replace og := og.below c
        replace b0 := b0.trans (c.mono b0.size)
        clear c
        clear hkk
        obtain ⟨t0, t1, t2, t3, t4, -⟩ := id Ag.facts4
        go_wp2_with fail
        have zE : Eg ≤ w5.heap.size := by have := Ag.lt; omega
        refine (markBook_any Eg _ _ _ _ _ _ rst rl rd ru (1) _ (by omega) (by omega) (by omega) (by omega) (by omega) (by omega) og).mono ?_
        rintro e w6 ⟨rfl, om, hw⟩
        clear t0 t1 t2 t3 t4
        clear zE
        replace G0 := G0.block (hw.block _ G0.lt fun hj => by have := (og.blk hj).1; omega)
        replace G1 := G1.block (hw.block _ G1.lt fun hj => by have := (og.blk hj).1; omega)
        replace Aw := Aw.block (hw.block _ Aw.lt fun hj => by have := (og.blk hj).1; omega)
        replace ow := ow.wr hw (fun j hj h => by have := (og.blk h).1; have := uwg j hj; omega)
        replace Ag := Ag.block (hw.block _ Ag.lt fun hj => by exact neg _ hj rfl)
        replace b0 := b0.trans (hw.below (B := w.heap.size) b0.size fun j hj => by have := (og.blk hj).1; omega)
        replace og := om
        clear hw om
        have hm1 : 0 ≤ 1 + 5 * (rl.length : Int) + 7 * (rd.length : Int) + 7 * (ru.length : Int) := by omega
        have hm2 : ((1 + 5 * (rl.length : Int) + 7 * (rd.length : Int) + 7 * (ru.length : Int) : Int) != (1 + 5 * (rl.length : Int) + 7 * (rd.length : Int) + 7 * (ru.length : Int) : Int)) = false := by simp
        obtain ⟨t0, t1, t2, t3, t4, -⟩ := id Ag.facts4
        go_wp2_with fail
        refine (heldBook_any _ _ _ rl.length rd.length ru.length _ _ _ rst 1 ⟨⟨rst, rl⟩, rd, ru⟩ _ rfl rfl rfl hrl.1 hrl.2.1 hrl.2.2 (by omega) (by omega) og.kr).mono ?_
        rintro e w7 ⟨rfl, c⟩
        clear t0 t1 t2 t3 t4
        replace G0 := G0.below c
        replace G1 := G1.below c
        replace Aw := Aw.below c
        replace ow := ow.below c
        replace Ag := Ag.below c
        replace og := og.below c
        replace b0 := b0.trans (c.mono b0.size)
        clear c
        go_upto_region 24 with fail
        have hr0 := hs0.below b0
        obtain ⟨t00, t01, t02, t03, t04, -⟩ := id G0.facts4
        obtain ⟨t10, t11, t12, t13, t14, t15, t16, t17, -⟩ := id G1.facts7
        go_cut [14, 15] (fun p14 p15 wx => p15 = .bool ok ∧ BoxB w7 ⟨⟨rst, rl⟩, rd, ru⟩ p14 wx)
        case first =>
          go_region_held3 (fun w' => Below w7.heap.size w7 w' ∧ ∀ b o, b < w7.heap.size → w'.cell? ⟨b, o, none⟩ = w7.cell? ⟨b, o, none⟩) (exact kept (by repeat (first | with_reducible assumption | with_reducible exact Below.refl _ _ | with_reducible refine Below.setCell ?_ (by first | omega | (simp; done) | (simp; omega)) _ | with_reducible refine Below.alloc ?_ (by first | omega | (simp; done) | (simp; omega)) _ | with_reducible refine Below.drew ?_)))
            (first
            | (go_at_call 30; refine (toBook_any _ _ _ _ _ _ st0 l0 d0 u0 _ hlb0.1 hlb0.2.1 hlb0.2.2 (hr0.below (by repeat (first | with_reducible assumption | with_reducible exact Below.refl _ _ | with_reducible refine Below.setCell ?_ (by first | omega | (simp; done) | (simp; omega)) _ | with_reducible refine Below.alloc ?_ (by first | omega | (simp; done) | (simp; omega)) _ | with_reducible refine Below.drew ?_)))).mono ?_; rintro e wy0 ⟨gy0x, gy0y, gy0z, rfl, oy0, c⟩; have By0 := kept_next (V := w7) (by repeat (first | with_reducible assumption | with_reducible exact Below.refl _ _ | with_reducible refine Below.setCell ?_ (by first | omega | (simp; done) | (simp; omega)) _ | with_reducible refine Below.alloc ?_ (by first | omega | (simp; done) | (simp; omega)) _ | with_reducible refine Below.drew ?_)) c; have zy0 := By0.size; (first | have hA0 := A0.lt | skip); (first | have A0 := A0.below c | have A0 := A0.drew.below c | have A0 := At.born c | have A0 := At.bornD c | skip); (first | obtain ⟨jy00, jy01, jy02, jy03, jy04, jy05⟩ := A0.facts4 | skip); clear c)
            | (go_at_call 14; refine (toBookDeed_any ⟨kd1, ix1, ⟨x10, x11, x12, x13, x14⟩⟩ _).mono ?_; rintro e wy1 ⟨rfl, c⟩; have By1 := kept_next (V := w7) (by repeat (first | with_reducible assumption | with_reducible exact Below.refl _ _ | with_reducible refine Below.setCell ?_ (by first | omega | (simp; done) | (simp; omega)) _ | with_reducible refine Below.alloc ?_ (by first | omega | (simp; done) | (simp; omega)) _ | with_reducible refine Below.drew ?_)) c; have zy1 := By1.size; (first | have hA0 := A0.lt | skip); (first | have A0 := A0.below c | have A0 := A0.drew.below c | have A0 := At.born c | have A0 := At.bornD c | skip); (first | obtain ⟨jy10, jy11, jy12, jy13, jy14, jy15⟩ := A0.facts4 | skip); (first | have oy0 := oy0.below c | have oy0 := oy0.below (al_then c) | skip); clear c)
            | (go_at_call 42; refine (KI.out _ _ _ _ _ _ _ (by first | exact oy0.kr | exact (oy0.alloc _).kr)).mono ?_; rintro e wz ⟨zax, zay, zaz, zcx, zcy, zcz, rfl, oz, c⟩; have Bz := kept_next (V := w7) (by repeat (first | with_reducible assumption | with_reducible exact Below.refl _ _ | with_reducible refine Below.setCell ?_ (by first | omega | (simp; done) | (simp; omega)) _ | with_reducible refine Below.alloc ?_ (by first | omega | (simp; done) | (simp; omega)) _ | with_reducible refine Below.drew ?_)) c; have zz := Bz.size; (first | have hA0 := A0.lt | skip); (first | have A0 := A0.below c | have A0 := A0.drew.below c | have A0 := At.born c | have A0 := At.bornD c | skip); (first | obtain ⟨jz0, jz1, jz2, jz3, jz4, jz5⟩ := A0.facts4 | skip); clear c))
          all_goals (go_wp2_with fail; go_meet)
          all_goals exact ⟨rfl, (by first | with_reducible exact boxB_new (b := ⟨⟨rst, rl⟩, rd, ru⟩) oz (by first | omega | (simp; done) | (simp; omega)) Bz | exact boxB_old (b := ⟨⟨rst, rl⟩, rd, ru⟩) A0 (by first | omega | (simp; done) | (simp; omega)) oz (by first | omega | (simp; done) | (simp; omega)) (by first | exact hA0 | simp) Bz)⟩
        case rest =>
          obtain ⟨rfl, ⟨Bh, ahx, ahy, ahz, chx, chy, chz, rfl, hBh, Ah, oh, neh, bb⟩⟩ := hcut
          replace G0 := G0.below bb
          replace G1 := G1.below bb
          replace Aw := Aw.below bb
          replace ow := ow.below bb
          replace Ag := Ag.below bb
          replace og := og.below bb
          replace b0 := b0.trans (bb.mono b0.size)
          clear t00 t01 t02 t03 t04 t10 t11 t12 t13 t14 t15 t16 t17 hr0 bb
          simp only at Ah neh
          obtain ⟨e0, e1, e2, e3, e4, -⟩ := id Ah.facts4
          obtain ⟨f0, f1, f2, f3, f4, -⟩ := id Aw.facts4
          go_wp2_with fail
          refine (eqBook_any _ _ _ _ _ _ _ _ _ _ _ _ rst rl rd ru _ hrl.1 hrl.2.1 hrl.2.2 oh.kr ow.kr).mono ?_
          rintro e w8 ⟨rfl, c⟩
          clear e0 e1 e2 e3 e4 f0 f1 f2 f3 f4
          replace G0 := G0.below c
          replace G1 := G1.below c
          replace Aw := Aw.below c
          replace ow := ow.below c
          replace Ag := Ag.below c
          replace og := og.below c
          replace Ah := Ah.below c
          replace oh := oh.below c
          replace b0 := b0.trans (c.mono b0.size)
          clear c
          obtain ⟨t0, t1, t2, t3, t4, -⟩ := id Ag.facts4
          go_wp2_with fail
          refine (heldBook_any _ _ _ rl.length rd.length ru.length _ _ _ rst 1 ⟨⟨rst, rl⟩, rd, ru⟩ _ rfl rfl rfl hrl.1 hrl.2.1 hrl.2.2 (by omega) (by omega) og.kr).mono ?_
          rintro e w9 ⟨rfl, c⟩
          clear t0 t1 t2 t3 t4
          replace G0 := G0.below c
          replace G1 := G1.below c
          replace Aw := Aw.below c
          replace ow := ow.below c
          replace Ag := Ag.below c
          replace og := og.below c
          replace Ah := Ah.below c
          replace oh := oh.below c
          replace b0 := b0.trans (c.mono b0.size)
          clear c
          go_wp2_with fail
          go_ret
          exact ⟨rfl, b0⟩
end Go.Proofs.Ytgggbapcpjfljaa
