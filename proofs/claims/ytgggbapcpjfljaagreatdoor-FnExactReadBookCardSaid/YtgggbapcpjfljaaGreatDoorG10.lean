/- Walks: spec.DeedDo, a kind of deed each (the theorems are written by wip/bin/gen_g10.py). -/
import Derived.Test.YtgggbapcpjfljaaGreatDoorG6
import Derived.Deep.RegionHeld3
namespace Go.Proofs.YtgggbapcpjfljaaGreatDoor
open Go Go.RowKit Go.Sort

set_option maxHeartbeats 1000000 in
theorem sdeedDo_bad (a : Option Addr) (c : Nat) (st : Int) (l : List Lg) (d : Dd) (w : World) (hl : l.length ≤ 1048576) (hs : Legs w a l) (hv : svOk ⟨st, l⟩ = false) :
    Calls Tryz.prog 13 #[.agg #[.int .i64 st, .slice a l.length c], d.val] w (SvOut (ddDo ⟨st, l⟩ d) w) := by
  rw [ddDo_bad hv]
  obtain ⟨kd, ix, ⟨x1, x2, x3, x4, x5⟩⟩ := d
  show Calls Tryz.prog 13 #[.agg #[.int .i64 st, .slice a l.length c], .agg #[.int .i64 kd, .int .i64 ix, .int .i64 x1, .int .i64 x2, .int .i64 x3, .int .i64 x4, .int .i64 x5]] w _
  go_enter Tryz.func13, Tryz.ntmps13
  go_wp2_with (go_at_call 30; refine (ssurveyValid_any _ _ st l _ hl (hs.below (by repeat (first | with_reducible assumption | exact Below.refl _ _ | refine below_drewN ?_ _ | refine Below.drew ?_ | refine Below.alloc ?_ (by first | omega | (simp; done) | (simp; omega)) _ | refine Below.setCell ?_ (by first | omega | (simp; done) | (simp; omega)) _)))).mono ?_; rintro e w1 ⟨rfl, b1⟩; rw [hv]; obtain ⟨hc, hf⟩ := bcell b1)
  refine bodyPost_ret (v := .tuple #[.agg #[.int .i64 0, .slice none 0 0], .bool false]) (by simp [results, Tryz.results13, go_sem, hc]) rfl ⟨_, rfl, KOwn.nil, (by repeat (first | with_reducible assumption | with_reducible exact Below.refl _ _ | refine Below.setCell ?_ (by first | omega | (simp; done) | (simp; omega)) _ | refine Below.alloc ?_ (by first | omega | (simp; done) | (simp; omega)) _ | with_reducible exact Below.trans (Below.refl _ _) b1 | refine Below.trans ?_ (Below.mono b1 (by first | omega | (simp; done) | (simp; omega))) | refine below_drewN ?_ _ | refine Below.drew ?_))⟩

set_option maxHeartbeats 2000000 in
theorem sdeedDo_unin (a : Option Addr) (c : Nat) (st : Int) (l : List Lg) (kd ix : Int) (g : Lg) (w : World) (hl : l.length ≤ 1048576) (hs : Legs w a l) (hv : svOk ⟨st, l⟩ = true) (hin : ddIn ⟨kd, ix, g⟩ = false) (hno : ddDo ⟨st, l⟩ ⟨kd, ix, g⟩ = (⟨st, l⟩, false)) :
    Calls Tryz.prog 13 #[.agg #[.int .i64 st, .slice a l.length c], (⟨kd, ix, g⟩ : Dd).val] w (SvOut (ddDo ⟨st, l⟩ ⟨kd, ix, g⟩) w) := by
  obtain ⟨x1, x2, x3, x4, x5⟩ := g
  show Calls Tryz.prog 13 #[.agg #[.int .i64 st, .slice a l.length c], .agg #[.int .i64 kd, .int .i64 ix, .int .i64 x1, .int .i64 x2, .int .i64 x3, .int .i64 x4, .int .i64 x5]] w _
  go_enter Tryz.func13, Tryz.ntmps13
  go_wp2_with fail
  obtain ⟨X, hX⟩ : ∃ X, w.heap.size = X := ⟨_, rfl⟩
  obtain ⟨W0, hW0⟩ : ∃ W0, W0 = ((w.alloc (.cells #[.int .i64 st, .slice a l.length c] 24)).alloc (.cells #[.int .i64 kd, .int .i64 ix, .int .i64 x1, .int .i64 x2, .int .i64 x3, .int .i64 x4, .int .i64 x5] 41)).alloc (.cells #[.int .i64 0, .slice none 0 0] 24) := ⟨_, rfl⟩
  have F0 : Fr W0 X st (.slice a l.length c) ⟨kd, ix, ⟨x1, x2, x3, x4, x5⟩⟩ := by rw [hW0, ← hX]; exact Fr.new w st _ ⟨kd, ix, ⟨x1, x2, x3, x4, x5⟩⟩ _ _ _
  have b0 : Below w.heap.size w W0 := by rw [hW0]; exact (by repeat (first | with_reducible assumption | exact Below.refl _ _ | refine below_drewN ?_ _ | refine Below.drew ?_ | refine Below.alloc ?_ (by first | omega | (simp; done) | (simp; omega)) _ | refine Below.setCell ?_ (by first | omega | (simp; done) | (simp; omega)) _))
  rw [hX, ← hW0]
  clear hW0
  refine (ssurveyValid_any _ _ st l _ hl (hs.below b0)).mono ?_
  rintro e w1 ⟨rfl, b1⟩
  rw [hv]
  replace F0 := F0.below b1
  replace b0 := b0.trans (b1.mono b0.size)
  clear b1 W0
  obtain ⟨s0, s1, s2, -, -⟩ := F0.s
  go_wp2_with fail
  clear s0 s1 s2
  have hX1 := F0.r.lt
  refine (l7Survey_any _ _ st l _ hl (hs.below b0)).mono ?_
  rintro e w2 ⟨v, rfl, o1, b1⟩
  obtain ⟨av, cv, rfl⟩ := o1.sl
  replace F0 := F0.below b1
  have bw2 := b0.trans (b1.mono b0.size)
  have hB1 : w1.heap.size ≤ w2.heap.size := b1.size
  have hBw := b0.size
  have hoY : ∀ k, (Value.slice av l.length cv).ownBlock = some k → k < w2.heap.size := fun k hk => (o1.lt hk).2
  clear b1
  obtain ⟨d0, d1, d2, d3, d4, d5, d6, d7⟩ := F0.d
  simp only at d1 d2 d3 d4 d5 d6 d7
  go_wp2_with fail
  obtain ⟨Y, hY⟩ : ∃ Y, w2.heap.size = Y := ⟨_, rfl⟩
  obtain ⟨W3, hW3⟩ : ∃ W3, W3 = w2.alloc (.cells #[.int .i64 st, .slice av l.length cv] 24) := ⟨_, rfl⟩
  have A0 : AtS W3 Y st (.slice av l.length cv) := by rw [hW3, ← hY]; exact AtS.new w2 st _ _
  have b3 : Below w2.heap.size w2 W3 := by rw [hW3]; exact (by repeat (first | with_reducible assumption | exact Below.refl _ _ | refine below_drewN ?_ _ | refine Below.drew ?_ | refine Below.alloc ?_ (by first | omega | (simp; done) | (simp; omega)) _ | refine Below.setCell ?_ (by first | omega | (simp; done) | (simp; omega)) _))
  rw [hY, ← hW3]
  clear hW3 d0 d1 d2 d3 d4 d5 d6 d7
  replace F0 := F0.below b3
  replace o1 := o1.below b3
  replace bw2 := bw2.trans (b3.mono bw2.size)
  rw [hY] at hB1 hoY
  clear b3 b0 hY w2
  refine (l7Deed_any ⟨kd, ix, ⟨x1, x2, x3, x4, x5⟩⟩ _).mono ?_
  rintro e W4 ⟨rfl, hgr⟩
  rw [hin]
  replace F0 := F0.below hgr
  replace A0 := A0.below hgr
  replace o1 := o1.below hgr
  replace bw2 := bw2.trans (hgr.mono bw2.size)
  clear hgr W3
  obtain ⟨s0, s1, s2, -, -⟩ := F0.s
  obtain ⟨d0, d1, d2, d3, d4, d5, d6, d7⟩ := F0.d
  simp only at d1 d2 d3 d4 d5 d6 d7
  go_wp2_with fail
  refine (l1In_any (ix) 0 ((l.length : Int) - 1) _).mono ?_
  rintro e W4' ⟨rfl, hww⟩
  obtain rfl := hww
  go_wp2_with fail
  refine (l7Survey_any _ _ st l _ hl (hs.below bw2)).mono ?_
  rintro e w7 ⟨v7, rfl, o7, b7⟩
  obtain ⟨a7, c7, rfl⟩ := o7.sl
  clear s0 s1 s2
  have hX7 := F0.r.lt
  have hB7 := bw2.size
  replace F0 := F0.below b7
  replace bw2 := bw2.trans (b7.mono bw2.size)
  obtain ⟨r0, r1, r2, r3, r4⟩ := F0.r
  clear b7 F0
  go_wp2_with fail
  have oF := ((o7.setCell (p := ⟨X + 1 + 1, 0, none⟩) hX7 (.int .i64 st)).setCell (p := ⟨X + 1 + 1, 1, none⟩) hX7 (.slice a7 l.length c7)).mono hB7
  have bF : Below w.heap.size w ((w7.setCell ⟨X + 1 + 1, 0, none⟩ (.int .i64 st)).setCell ⟨X + 1 + 1, 1, none⟩ (.slice a7 l.length c7)) := (bw2.setCell (by show _ ≤ X + 1 + 1; omega) _).setCell (by show _ ≤ X + 1 + 1; omega) _
  refine bodyPost_ret (v := .tuple #[.agg #[.int .i64 st, .slice a7 l.length c7], .bool false]) (by simp [results, Tryz.results13, go_sem, r1, r2]) rfl ?_
  rw [hno]
  exact ⟨_, rfl, oF, bF⟩

set_option maxHeartbeats 2000000 in
theorem sdeedDo_off0 (a : Option Addr) (c : Nat) (st : Int) (l : List Lg) (ix : Int) (g : Lg) (w : World) (hl : l.length ≤ 1048576) (hs : Legs w a l) (hv : svOk ⟨st, l⟩ = true) (hin : ddIn ⟨0, ix, g⟩ = true) (hth : ¬ ix ≤ (l.length : Int)) (hno : ddDo ⟨st, l⟩ ⟨0, ix, g⟩ = (⟨st, l⟩, false)) :
    Calls Tryz.prog 13 #[.agg #[.int .i64 st, .slice a l.length c], (⟨0, ix, g⟩ : Dd).val] w (SvOut (ddDo ⟨st, l⟩ ⟨0, ix, g⟩) w) := by
  obtain ⟨x1, x2, x3, x4, x5⟩ := g
  show Calls Tryz.prog 13 #[.agg #[.int .i64 st, .slice a l.length c], .agg #[.int .i64 0, .int .i64 ix, .int .i64 x1, .int .i64 x2, .int .i64 x3, .int .i64 x4, .int .i64 x5]] w _
  go_enter Tryz.func13, Tryz.ntmps13
  go_wp2_with fail
  obtain ⟨X, hX⟩ : ∃ X, w.heap.size = X := ⟨_, rfl⟩
  obtain ⟨W0, hW0⟩ : ∃ W0, W0 = ((w.alloc (.cells #[.int .i64 st, .slice a l.length c] 24)).alloc (.cells #[.int .i64 0, .int .i64 ix, .int .i64 x1, .int .i64 x2, .int .i64 x3, .int .i64 x4, .int .i64 x5] 41)).alloc (.cells #[.int .i64 0, .slice none 0 0] 24) := ⟨_, rfl⟩
  have F0 : Fr W0 X st (.slice a l.length c) ⟨0, ix, ⟨x1, x2, x3, x4, x5⟩⟩ := by rw [hW0, ← hX]; exact Fr.new w st _ ⟨0, ix, ⟨x1, x2, x3, x4, x5⟩⟩ _ _ _
  have b0 : Below w.heap.size w W0 := by rw [hW0]; exact (by repeat (first | with_reducible assumption | exact Below.refl _ _ | refine below_drewN ?_ _ | refine Below.drew ?_ | refine Below.alloc ?_ (by first | omega | (simp; done) | (simp; omega)) _ | refine Below.setCell ?_ (by first | omega | (simp; done) | (simp; omega)) _))
  rw [hX, ← hW0]
  clear hW0
  refine (ssurveyValid_any _ _ st l _ hl (hs.below b0)).mono ?_
  rintro e w1 ⟨rfl, b1⟩
  rw [hv]
  replace F0 := F0.below b1
  replace b0 := b0.trans (b1.mono b0.size)
  clear b1 W0
  obtain ⟨s0, s1, s2, -, -⟩ := F0.s
  go_wp2_with fail
  clear s0 s1 s2
  have hX1 := F0.r.lt
  refine (l7Survey_any _ _ st l _ hl (hs.below b0)).mono ?_
  rintro e w2 ⟨v, rfl, o1, b1⟩
  obtain ⟨av, cv, rfl⟩ := o1.sl
  replace F0 := F0.below b1
  have bw2 := b0.trans (b1.mono b0.size)
  have hB1 : w1.heap.size ≤ w2.heap.size := b1.size
  have hBw := b0.size
  have hoY : ∀ k, (Value.slice av l.length cv).ownBlock = some k → k < w2.heap.size := fun k hk => (o1.lt hk).2
  clear b1
  obtain ⟨d0, d1, d2, d3, d4, d5, d6, d7⟩ := F0.d
  simp only at d1 d2 d3 d4 d5 d6 d7
  go_wp2_with fail
  obtain ⟨Y, hY⟩ : ∃ Y, w2.heap.size = Y := ⟨_, rfl⟩
  obtain ⟨W3, hW3⟩ : ∃ W3, W3 = w2.alloc (.cells #[.int .i64 st, .slice av l.length cv] 24) := ⟨_, rfl⟩
  have A0 : AtS W3 Y st (.slice av l.length cv) := by rw [hW3, ← hY]; exact AtS.new w2 st _ _
  have b3 : Below w2.heap.size w2 W3 := by rw [hW3]; exact (by repeat (first | with_reducible assumption | exact Below.refl _ _ | refine below_drewN ?_ _ | refine Below.drew ?_ | refine Below.alloc ?_ (by first | omega | (simp; done) | (simp; omega)) _ | refine Below.setCell ?_ (by first | omega | (simp; done) | (simp; omega)) _))
  rw [hY, ← hW3]
  clear hW3 d0 d1 d2 d3 d4 d5 d6 d7
  replace F0 := F0.below b3
  replace o1 := o1.below b3
  replace bw2 := bw2.trans (b3.mono bw2.size)
  rw [hY] at hB1 hoY
  clear b3 b0 hY w2
  refine (l7Deed_any ⟨0, ix, ⟨x1, x2, x3, x4, x5⟩⟩ _).mono ?_
  rintro e W4 ⟨rfl, hgr⟩
  rw [hin]
  replace F0 := F0.below hgr
  replace A0 := A0.below hgr
  replace o1 := o1.below hgr
  replace bw2 := bw2.trans (hgr.mono bw2.size)
  clear hgr W3
  obtain ⟨s0, s1, s2, -, -⟩ := F0.s
  obtain ⟨d0, d1, d2, d3, d4, d5, d6, d7⟩ := F0.d
  simp only at d1 d2 d3 d4 d5 d6 d7
  go_wp2_with fail
  refine (l1In_any (ix) 0 ((l.length : Int) - 1) _).mono ?_
  rintro e W4' ⟨rfl, hww⟩
  obtain rfl := hww
  go_wp2_with fail
  go_quiet (fail)
  obtain ⟨V, hV⟩ : ∃ V, V = W4.drewN nq := ⟨_, rfl⟩
  have bV : Below W4.heap.size W4 V := by rw [hV]; exact below_drewN (Below.refl _ _) _
  rw [← hV]
  replace F0 := F0.below bV
  replace A0 := A0.below bV
  replace o1 := o1.below bV
  replace bw2 := bw2.trans (bV.mono bw2.size)
  clear hV bV s0 s1 s2 d0 d1 d2 d3 d4 d5 d6 d7 W4
  obtain ⟨s0, s1, s2, -, -⟩ := F0.s
  obtain ⟨d0, d1, d2, d3, d4, d5, d6, d7⟩ := F0.d
  simp only at d1 d2 d3 d4 d5 d6 d7
  go_wp2_with fail
  refine (l7Survey_any _ _ st l _ hl (hs.below bw2)).mono ?_
  rintro e w7 ⟨v7, rfl, o7, b7⟩
  obtain ⟨a7, c7, rfl⟩ := o7.sl
  clear s0 s1 s2
  have hX7 := F0.r.lt
  have hB7 := bw2.size
  replace F0 := F0.below b7
  replace bw2 := bw2.trans (b7.mono bw2.size)
  obtain ⟨r0, r1, r2, r3, r4⟩ := F0.r
  clear b7 F0
  go_wp2_with fail
  have oF := ((o7.setCell (p := ⟨X + 1 + 1, 0, none⟩) hX7 (.int .i64 st)).setCell (p := ⟨X + 1 + 1, 1, none⟩) hX7 (.slice a7 l.length c7)).mono hB7
  have bF : Below w.heap.size w ((w7.setCell ⟨X + 1 + 1, 0, none⟩ (.int .i64 st)).setCell ⟨X + 1 + 1, 1, none⟩ (.slice a7 l.length c7)) := (bw2.setCell (by show _ ≤ X + 1 + 1; omega) _).setCell (by show _ ≤ X + 1 + 1; omega) _
  refine bodyPost_ret (v := .tuple #[.agg #[.int .i64 st, .slice a7 l.length c7], .bool false]) (by simp [results, Tryz.results13, go_sem, r1, r2]) rfl ?_
  rw [hno]
  exact ⟨_, rfl, oF, bF⟩

set_option maxHeartbeats 2000000 in
theorem sdeedDo_off1 (a : Option Addr) (c : Nat) (st : Int) (l : List Lg) (ix : Int) (g : Lg) (w : World) (hl : l.length ≤ 1048576) (hs : Legs w a l) (hv : svOk ⟨st, l⟩ = true) (hin : ddIn ⟨1, ix, g⟩ = true) (hth : inB ix 0 ((l.length : Int) - 1) = false) (hno : ddDo ⟨st, l⟩ ⟨1, ix, g⟩ = (⟨st, l⟩, false)) :
    Calls Tryz.prog 13 #[.agg #[.int .i64 st, .slice a l.length c], (⟨1, ix, g⟩ : Dd).val] w (SvOut (ddDo ⟨st, l⟩ ⟨1, ix, g⟩) w) := by
  obtain ⟨x1, x2, x3, x4, x5⟩ := g
  show Calls Tryz.prog 13 #[.agg #[.int .i64 st, .slice a l.length c], .agg #[.int .i64 1, .int .i64 ix, .int .i64 x1, .int .i64 x2, .int .i64 x3, .int .i64 x4, .int .i64 x5]] w _
  go_enter Tryz.func13, Tryz.ntmps13
  go_wp2_with fail
  obtain ⟨X, hX⟩ : ∃ X, w.heap.size = X := ⟨_, rfl⟩
  obtain ⟨W0, hW0⟩ : ∃ W0, W0 = ((w.alloc (.cells #[.int .i64 st, .slice a l.length c] 24)).alloc (.cells #[.int .i64 1, .int .i64 ix, .int .i64 x1, .int .i64 x2, .int .i64 x3, .int .i64 x4, .int .i64 x5] 41)).alloc (.cells #[.int .i64 0, .slice none 0 0] 24) := ⟨_, rfl⟩
  have F0 : Fr W0 X st (.slice a l.length c) ⟨1, ix, ⟨x1, x2, x3, x4, x5⟩⟩ := by rw [hW0, ← hX]; exact Fr.new w st _ ⟨1, ix, ⟨x1, x2, x3, x4, x5⟩⟩ _ _ _
  have b0 : Below w.heap.size w W0 := by rw [hW0]; exact (by repeat (first | with_reducible assumption | exact Below.refl _ _ | refine below_drewN ?_ _ | refine Below.drew ?_ | refine Below.alloc ?_ (by first | omega | (simp; done) | (simp; omega)) _ | refine Below.setCell ?_ (by first | omega | (simp; done) | (simp; omega)) _))
  rw [hX, ← hW0]
  clear hW0
  refine (ssurveyValid_any _ _ st l _ hl (hs.below b0)).mono ?_
  rintro e w1 ⟨rfl, b1⟩
  rw [hv]
  replace F0 := F0.below b1
  replace b0 := b0.trans (b1.mono b0.size)
  clear b1 W0
  obtain ⟨s0, s1, s2, -, -⟩ := F0.s
  go_wp2_with fail
  clear s0 s1 s2
  have hX1 := F0.r.lt
  refine (l7Survey_any _ _ st l _ hl (hs.below b0)).mono ?_
  rintro e w2 ⟨v, rfl, o1, b1⟩
  obtain ⟨av, cv, rfl⟩ := o1.sl
  replace F0 := F0.below b1
  have bw2 := b0.trans (b1.mono b0.size)
  have hB1 : w1.heap.size ≤ w2.heap.size := b1.size
  have hBw := b0.size
  have hoY : ∀ k, (Value.slice av l.length cv).ownBlock = some k → k < w2.heap.size := fun k hk => (o1.lt hk).2
  clear b1
  obtain ⟨d0, d1, d2, d3, d4, d5, d6, d7⟩ := F0.d
  simp only at d1 d2 d3 d4 d5 d6 d7
  go_wp2_with fail
  obtain ⟨Y, hY⟩ : ∃ Y, w2.heap.size = Y := ⟨_, rfl⟩
  obtain ⟨W3, hW3⟩ : ∃ W3, W3 = w2.alloc (.cells #[.int .i64 st, .slice av l.length cv] 24) := ⟨_, rfl⟩
  have A0 : AtS W3 Y st (.slice av l.length cv) := by rw [hW3, ← hY]; exact AtS.new w2 st _ _
  have b3 : Below w2.heap.size w2 W3 := by rw [hW3]; exact (by repeat (first | with_reducible assumption | exact Below.refl _ _ | refine below_drewN ?_ _ | refine Below.drew ?_ | refine Below.alloc ?_ (by first | omega | (simp; done) | (simp; omega)) _ | refine Below.setCell ?_ (by first | omega | (simp; done) | (simp; omega)) _))
  rw [hY, ← hW3]
  clear hW3 d0 d1 d2 d3 d4 d5 d6 d7
  replace F0 := F0.below b3
  replace o1 := o1.below b3
  replace bw2 := bw2.trans (b3.mono bw2.size)
  rw [hY] at hB1 hoY
  clear b3 b0 hY w2
  refine (l7Deed_any ⟨1, ix, ⟨x1, x2, x3, x4, x5⟩⟩ _).mono ?_
  rintro e W4 ⟨rfl, hgr⟩
  rw [hin]
  replace F0 := F0.below hgr
  replace A0 := A0.below hgr
  replace o1 := o1.below hgr
  replace bw2 := bw2.trans (hgr.mono bw2.size)
  clear hgr W3
  obtain ⟨s0, s1, s2, -, -⟩ := F0.s
  obtain ⟨d0, d1, d2, d3, d4, d5, d6, d7⟩ := F0.d
  simp only at d1 d2 d3 d4 d5 d6 d7
  go_wp2_with fail
  refine (l1In_any (ix) 0 ((l.length : Int) - 1) _).mono ?_
  rintro e W4' ⟨rfl, hww⟩
  obtain rfl := hww
  rw [hth]
  go_wp2_with fail
  go_quiet (fail)
  obtain ⟨V, hV⟩ : ∃ V, V = W4.drewN nq := ⟨_, rfl⟩
  have bV : Below W4.heap.size W4 V := by rw [hV]; exact below_drewN (Below.refl _ _) _
  rw [← hV]
  replace F0 := F0.below bV
  replace A0 := A0.below bV
  replace o1 := o1.below bV
  replace bw2 := bw2.trans (bV.mono bw2.size)
  clear hV bV s0 s1 s2 d0 d1 d2 d3 d4 d5 d6 d7 W4
  obtain ⟨s0, s1, s2, -, -⟩ := F0.s
  obtain ⟨d0, d1, d2, d3, d4, d5, d6, d7⟩ := F0.d
  simp only at d1 d2 d3 d4 d5 d6 d7
  go_wp2_with fail
  refine (l7Survey_any _ _ st l _ hl (hs.below bw2)).mono ?_
  rintro e w7 ⟨v7, rfl, o7, b7⟩
  obtain ⟨a7, c7, rfl⟩ := o7.sl
  clear s0 s1 s2
  have hX7 := F0.r.lt
  have hB7 := bw2.size
  replace F0 := F0.below b7
  replace bw2 := bw2.trans (b7.mono bw2.size)
  obtain ⟨r0, r1, r2, r3, r4⟩ := F0.r
  clear b7 F0
  go_wp2_with fail
  have oF := ((o7.setCell (p := ⟨X + 1 + 1, 0, none⟩) hX7 (.int .i64 st)).setCell (p := ⟨X + 1 + 1, 1, none⟩) hX7 (.slice a7 l.length c7)).mono hB7
  have bF : Below w.heap.size w ((w7.setCell ⟨X + 1 + 1, 0, none⟩ (.int .i64 st)).setCell ⟨X + 1 + 1, 1, none⟩ (.slice a7 l.length c7)) := (bw2.setCell (by show _ ≤ X + 1 + 1; omega) _).setCell (by show _ ≤ X + 1 + 1; omega) _
  refine bodyPost_ret (v := .tuple #[.agg #[.int .i64 st, .slice a7 l.length c7], .bool false]) (by simp [results, Tryz.results13, go_sem, r1, r2]) rfl ?_
  rw [hno]
  exact ⟨_, rfl, oF, bF⟩

set_option maxHeartbeats 2000000 in
theorem sdeedDo_off2 (a : Option Addr) (c : Nat) (st : Int) (l : List Lg) (ix : Int) (g : Lg) (w : World) (hl : l.length ≤ 1048576) (hs : Legs w a l) (hv : svOk ⟨st, l⟩ = true) (hin : ddIn ⟨2, ix, g⟩ = true) (hth : inB ix 0 ((l.length : Int) - 1) = false) (hno : ddDo ⟨st, l⟩ ⟨2, ix, g⟩ = (⟨st, l⟩, false)) :
    Calls Tryz.prog 13 #[.agg #[.int .i64 st, .slice a l.length c], (⟨2, ix, g⟩ : Dd).val] w (SvOut (ddDo ⟨st, l⟩ ⟨2, ix, g⟩) w) := by
  obtain ⟨x1, x2, x3, x4, x5⟩ := g
  show Calls Tryz.prog 13 #[.agg #[.int .i64 st, .slice a l.length c], .agg #[.int .i64 2, .int .i64 ix, .int .i64 x1, .int .i64 x2, .int .i64 x3, .int .i64 x4, .int .i64 x5]] w _
  go_enter Tryz.func13, Tryz.ntmps13
  go_wp2_with fail
  obtain ⟨X, hX⟩ : ∃ X, w.heap.size = X := ⟨_, rfl⟩
  obtain ⟨W0, hW0⟩ : ∃ W0, W0 = ((w.alloc (.cells #[.int .i64 st, .slice a l.length c] 24)).alloc (.cells #[.int .i64 2, .int .i64 ix, .int .i64 x1, .int .i64 x2, .int .i64 x3, .int .i64 x4, .int .i64 x5] 41)).alloc (.cells #[.int .i64 0, .slice none 0 0] 24) := ⟨_, rfl⟩
  have F0 : Fr W0 X st (.slice a l.length c) ⟨2, ix, ⟨x1, x2, x3, x4, x5⟩⟩ := by rw [hW0, ← hX]; exact Fr.new w st _ ⟨2, ix, ⟨x1, x2, x3, x4, x5⟩⟩ _ _ _
  have b0 : Below w.heap.size w W0 := by rw [hW0]; exact (by repeat (first | with_reducible assumption | exact Below.refl _ _ | refine below_drewN ?_ _ | refine Below.drew ?_ | refine Below.alloc ?_ (by first | omega | (simp; done) | (simp; omega)) _ | refine Below.setCell ?_ (by first | omega | (simp; done) | (simp; omega)) _))
  rw [hX, ← hW0]
  clear hW0
  refine (ssurveyValid_any _ _ st l _ hl (hs.below b0)).mono ?_
  rintro e w1 ⟨rfl, b1⟩
  rw [hv]
  replace F0 := F0.below b1
  replace b0 := b0.trans (b1.mono b0.size)
  clear b1 W0
  obtain ⟨s0, s1, s2, -, -⟩ := F0.s
  go_wp2_with fail
  clear s0 s1 s2
  have hX1 := F0.r.lt
  refine (l7Survey_any _ _ st l _ hl (hs.below b0)).mono ?_
  rintro e w2 ⟨v, rfl, o1, b1⟩
  obtain ⟨av, cv, rfl⟩ := o1.sl
  replace F0 := F0.below b1
  have bw2 := b0.trans (b1.mono b0.size)
  have hB1 : w1.heap.size ≤ w2.heap.size := b1.size
  have hBw := b0.size
  have hoY : ∀ k, (Value.slice av l.length cv).ownBlock = some k → k < w2.heap.size := fun k hk => (o1.lt hk).2
  clear b1
  obtain ⟨d0, d1, d2, d3, d4, d5, d6, d7⟩ := F0.d
  simp only at d1 d2 d3 d4 d5 d6 d7
  go_wp2_with fail
  obtain ⟨Y, hY⟩ : ∃ Y, w2.heap.size = Y := ⟨_, rfl⟩
  obtain ⟨W3, hW3⟩ : ∃ W3, W3 = w2.alloc (.cells #[.int .i64 st, .slice av l.length cv] 24) := ⟨_, rfl⟩
  have A0 : AtS W3 Y st (.slice av l.length cv) := by rw [hW3, ← hY]; exact AtS.new w2 st _ _
  have b3 : Below w2.heap.size w2 W3 := by rw [hW3]; exact (by repeat (first | with_reducible assumption | exact Below.refl _ _ | refine below_drewN ?_ _ | refine Below.drew ?_ | refine Below.alloc ?_ (by first | omega | (simp; done) | (simp; omega)) _ | refine Below.setCell ?_ (by first | omega | (simp; done) | (simp; omega)) _))
  rw [hY, ← hW3]
  clear hW3 d0 d1 d2 d3 d4 d5 d6 d7
  replace F0 := F0.below b3
  replace o1 := o1.below b3
  replace bw2 := bw2.trans (b3.mono bw2.size)
  rw [hY] at hB1 hoY
  clear b3 b0 hY w2
  refine (l7Deed_any ⟨2, ix, ⟨x1, x2, x3, x4, x5⟩⟩ _).mono ?_
  rintro e W4 ⟨rfl, hgr⟩
  rw [hin]
  replace F0 := F0.below hgr
  replace A0 := A0.below hgr
  replace o1 := o1.below hgr
  replace bw2 := bw2.trans (hgr.mono bw2.size)
  clear hgr W3
  obtain ⟨s0, s1, s2, -, -⟩ := F0.s
  obtain ⟨d0, d1, d2, d3, d4, d5, d6, d7⟩ := F0.d
  simp only at d1 d2 d3 d4 d5 d6 d7
  go_wp2_with fail
  refine (l1In_any (ix) 0 ((l.length : Int) - 1) _).mono ?_
  rintro e W4' ⟨rfl, hww⟩
  obtain rfl := hww
  rw [hth]
  go_wp2_with fail
  go_quiet (fail)
  obtain ⟨V, hV⟩ : ∃ V, V = W4.drewN nq := ⟨_, rfl⟩
  have bV : Below W4.heap.size W4 V := by rw [hV]; exact below_drewN (Below.refl _ _) _
  rw [← hV]
  replace F0 := F0.below bV
  replace A0 := A0.below bV
  replace o1 := o1.below bV
  replace bw2 := bw2.trans (bV.mono bw2.size)
  clear hV bV s0 s1 s2 d0 d1 d2 d3 d4 d5 d6 d7 W4
  obtain ⟨s0, s1, s2, -, -⟩ := F0.s
  obtain ⟨d0, d1, d2, d3, d4, d5, d6, d7⟩ := F0.d
  simp only at d1 d2 d3 d4 d5 d6 d7
  go_wp2_with fail
  refine (l7Survey_any _ _ st l _ hl (hs.below bw2)).mono ?_
  rintro e w7 ⟨v7, rfl, o7, b7⟩
  obtain ⟨a7, c7, rfl⟩ := o7.sl
  clear s0 s1 s2
  have hX7 := F0.r.lt
  have hB7 := bw2.size
  replace F0 := F0.below b7
  replace bw2 := bw2.trans (b7.mono bw2.size)
  obtain ⟨r0, r1, r2, r3, r4⟩ := F0.r
  clear b7 F0
  go_wp2_with fail
  have oF := ((o7.setCell (p := ⟨X + 1 + 1, 0, none⟩) hX7 (.int .i64 st)).setCell (p := ⟨X + 1 + 1, 1, none⟩) hX7 (.slice a7 l.length c7)).mono hB7
  have bF : Below w.heap.size w ((w7.setCell ⟨X + 1 + 1, 0, none⟩ (.int .i64 st)).setCell ⟨X + 1 + 1, 1, none⟩ (.slice a7 l.length c7)) := (bw2.setCell (by show _ ≤ X + 1 + 1; omega) _).setCell (by show _ ≤ X + 1 + 1; omega) _
  refine bodyPost_ret (v := .tuple #[.agg #[.int .i64 st, .slice a7 l.length c7], .bool false]) (by simp [results, Tryz.results13, go_sem, r1, r2]) rfl ?_
  rw [hno]
  exact ⟨_, rfl, oF, bF⟩

set_option maxHeartbeats 2000000 in
theorem sdeedDo_off3 (a : Option Addr) (c : Nat) (st : Int) (l : List Lg) (ix : Int) (g : Lg) (w : World) (hl : l.length ≤ 1048576) (hs : Legs w a l) (hv : svOk ⟨st, l⟩ = true) (hin : ddIn ⟨3, ix, g⟩ = true) (hth : inB ix 0 ((l.length : Int) - 1) = false) (hno : ddDo ⟨st, l⟩ ⟨3, ix, g⟩ = (⟨st, l⟩, false)) :
    Calls Tryz.prog 13 #[.agg #[.int .i64 st, .slice a l.length c], (⟨3, ix, g⟩ : Dd).val] w (SvOut (ddDo ⟨st, l⟩ ⟨3, ix, g⟩) w) := by
  obtain ⟨x1, x2, x3, x4, x5⟩ := g
  show Calls Tryz.prog 13 #[.agg #[.int .i64 st, .slice a l.length c], .agg #[.int .i64 3, .int .i64 ix, .int .i64 x1, .int .i64 x2, .int .i64 x3, .int .i64 x4, .int .i64 x5]] w _
  go_enter Tryz.func13, Tryz.ntmps13
  go_wp2_with fail
  obtain ⟨X, hX⟩ : ∃ X, w.heap.size = X := ⟨_, rfl⟩
  obtain ⟨W0, hW0⟩ : ∃ W0, W0 = ((w.alloc (.cells #[.int .i64 st, .slice a l.length c] 24)).alloc (.cells #[.int .i64 3, .int .i64 ix, .int .i64 x1, .int .i64 x2, .int .i64 x3, .int .i64 x4, .int .i64 x5] 41)).alloc (.cells #[.int .i64 0, .slice none 0 0] 24) := ⟨_, rfl⟩
  have F0 : Fr W0 X st (.slice a l.length c) ⟨3, ix, ⟨x1, x2, x3, x4, x5⟩⟩ := by rw [hW0, ← hX]; exact Fr.new w st _ ⟨3, ix, ⟨x1, x2, x3, x4, x5⟩⟩ _ _ _
  have b0 : Below w.heap.size w W0 := by rw [hW0]; exact (by repeat (first | with_reducible assumption | exact Below.refl _ _ | refine below_drewN ?_ _ | refine Below.drew ?_ | refine Below.alloc ?_ (by first | omega | (simp; done) | (simp; omega)) _ | refine Below.setCell ?_ (by first | omega | (simp; done) | (simp; omega)) _))
  rw [hX, ← hW0]
  clear hW0
  refine (ssurveyValid_any _ _ st l _ hl (hs.below b0)).mono ?_
  rintro e w1 ⟨rfl, b1⟩
  rw [hv]
  replace F0 := F0.below b1
  replace b0 := b0.trans (b1.mono b0.size)
  clear b1 W0
  obtain ⟨s0, s1, s2, -, -⟩ := F0.s
  go_wp2_with fail
  clear s0 s1 s2
  have hX1 := F0.r.lt
  refine (l7Survey_any _ _ st l _ hl (hs.below b0)).mono ?_
  rintro e w2 ⟨v, rfl, o1, b1⟩
  obtain ⟨av, cv, rfl⟩ := o1.sl
  replace F0 := F0.below b1
  have bw2 := b0.trans (b1.mono b0.size)
  have hB1 : w1.heap.size ≤ w2.heap.size := b1.size
  have hBw := b0.size
  have hoY : ∀ k, (Value.slice av l.length cv).ownBlock = some k → k < w2.heap.size := fun k hk => (o1.lt hk).2
  clear b1
  obtain ⟨d0, d1, d2, d3, d4, d5, d6, d7⟩ := F0.d
  simp only at d1 d2 d3 d4 d5 d6 d7
  go_wp2_with fail
  obtain ⟨Y, hY⟩ : ∃ Y, w2.heap.size = Y := ⟨_, rfl⟩
  obtain ⟨W3, hW3⟩ : ∃ W3, W3 = w2.alloc (.cells #[.int .i64 st, .slice av l.length cv] 24) := ⟨_, rfl⟩
  have A0 : AtS W3 Y st (.slice av l.length cv) := by rw [hW3, ← hY]; exact AtS.new w2 st _ _
  have b3 : Below w2.heap.size w2 W3 := by rw [hW3]; exact (by repeat (first | with_reducible assumption | exact Below.refl _ _ | refine below_drewN ?_ _ | refine Below.drew ?_ | refine Below.alloc ?_ (by first | omega | (simp; done) | (simp; omega)) _ | refine Below.setCell ?_ (by first | omega | (simp; done) | (simp; omega)) _))
  rw [hY, ← hW3]
  clear hW3 d0 d1 d2 d3 d4 d5 d6 d7
  replace F0 := F0.below b3
  replace o1 := o1.below b3
  replace bw2 := bw2.trans (b3.mono bw2.size)
  rw [hY] at hB1 hoY
  clear b3 b0 hY w2
  refine (l7Deed_any ⟨3, ix, ⟨x1, x2, x3, x4, x5⟩⟩ _).mono ?_
  rintro e W4 ⟨rfl, hgr⟩
  rw [hin]
  replace F0 := F0.below hgr
  replace A0 := A0.below hgr
  replace o1 := o1.below hgr
  replace bw2 := bw2.trans (hgr.mono bw2.size)
  clear hgr W3
  obtain ⟨s0, s1, s2, -, -⟩ := F0.s
  obtain ⟨d0, d1, d2, d3, d4, d5, d6, d7⟩ := F0.d
  simp only at d1 d2 d3 d4 d5 d6 d7
  go_wp2_with fail
  refine (l1In_any (ix) 0 ((l.length : Int) - 1) _).mono ?_
  rintro e W4' ⟨rfl, hww⟩
  obtain rfl := hww
  rw [hth]
  go_wp2_with fail
  go_quiet (fail)
  obtain ⟨V, hV⟩ : ∃ V, V = W4.drewN nq := ⟨_, rfl⟩
  have bV : Below W4.heap.size W4 V := by rw [hV]; exact below_drewN (Below.refl _ _) _
  rw [← hV]
  replace F0 := F0.below bV
  replace A0 := A0.below bV
  replace o1 := o1.below bV
  replace bw2 := bw2.trans (bV.mono bw2.size)
  clear hV bV s0 s1 s2 d0 d1 d2 d3 d4 d5 d6 d7 W4
  obtain ⟨s0, s1, s2, -, -⟩ := F0.s
  obtain ⟨d0, d1, d2, d3, d4, d5, d6, d7⟩ := F0.d
  simp only at d1 d2 d3 d4 d5 d6 d7
  go_wp2_with fail
  refine (l7Survey_any _ _ st l _ hl (hs.below bw2)).mono ?_
  rintro e w7 ⟨v7, rfl, o7, b7⟩
  obtain ⟨a7, c7, rfl⟩ := o7.sl
  clear s0 s1 s2
  have hX7 := F0.r.lt
  have hB7 := bw2.size
  replace F0 := F0.below b7
  replace bw2 := bw2.trans (b7.mono bw2.size)
  obtain ⟨r0, r1, r2, r3, r4⟩ := F0.r
  clear b7 F0
  go_wp2_with fail
  have oF := ((o7.setCell (p := ⟨X + 1 + 1, 0, none⟩) hX7 (.int .i64 st)).setCell (p := ⟨X + 1 + 1, 1, none⟩) hX7 (.slice a7 l.length c7)).mono hB7
  have bF : Below w.heap.size w ((w7.setCell ⟨X + 1 + 1, 0, none⟩ (.int .i64 st)).setCell ⟨X + 1 + 1, 1, none⟩ (.slice a7 l.length c7)) := (bw2.setCell (by show _ ≤ X + 1 + 1; omega) _).setCell (by show _ ≤ X + 1 + 1; omega) _
  refine bodyPost_ret (v := .tuple #[.agg #[.int .i64 st, .slice a7 l.length c7], .bool false]) (by simp [results, Tryz.results13, go_sem, r1, r2]) rfl ?_
  rw [hno]
  exact ⟨_, rfl, oF, bF⟩

set_option maxHeartbeats 2000000 in
theorem sdeedDo_step4 (a : Option Addr) (c : Nat) (st : Int) (l : List Lg) (g : Lg) (w : World) (hl : l.length ≤ 1048576) (hs : Legs w a l) (hv : svOk ⟨st, l⟩ = true) (hin : ddIn ⟨4, 0, g⟩ = true) (ht : ddTry ⟨st, l⟩ ⟨4, 0, g⟩ = some ⟨st + 1, l⟩) (hst : 1 ≤ st ∧ st ≤ 6) :
    Calls Tryz.prog 13 #[.agg #[.int .i64 st, .slice a l.length c], (⟨4, 0, g⟩ : Dd).val] w (SvOut (ddDo ⟨st, l⟩ ⟨4, 0, g⟩) w) := by
  obtain ⟨x1, x2, x3, x4, x5⟩ := g
  show Calls Tryz.prog 13 #[.agg #[.int .i64 st, .slice a l.length c], .agg #[.int .i64 4, .int .i64 0, .int .i64 x1, .int .i64 x2, .int .i64 x3, .int .i64 x4, .int .i64 x5]] w _
  obtain ⟨hst1, hst2⟩ := hst
  go_enter Tryz.func13, Tryz.ntmps13
  go_wp2_with fail
  obtain ⟨X, hX⟩ : ∃ X, w.heap.size = X := ⟨_, rfl⟩
  obtain ⟨W0, hW0⟩ : ∃ W0, W0 = ((w.alloc (.cells #[.int .i64 st, .slice a l.length c] 24)).alloc (.cells #[.int .i64 4, .int .i64 0, .int .i64 x1, .int .i64 x2, .int .i64 x3, .int .i64 x4, .int .i64 x5] 41)).alloc (.cells #[.int .i64 0, .slice none 0 0] 24) := ⟨_, rfl⟩
  have F0 : Fr W0 X st (.slice a l.length c) ⟨4, 0, ⟨x1, x2, x3, x4, x5⟩⟩ := by rw [hW0, ← hX]; exact Fr.new w st _ ⟨4, 0, ⟨x1, x2, x3, x4, x5⟩⟩ _ _ _
  have b0 : Below w.heap.size w W0 := by rw [hW0]; exact (by repeat (first | with_reducible assumption | exact Below.refl _ _ | refine below_drewN ?_ _ | refine Below.drew ?_ | refine Below.alloc ?_ (by first | omega | (simp; done) | (simp; omega)) _ | refine Below.setCell ?_ (by first | omega | (simp; done) | (simp; omega)) _))
  rw [hX, ← hW0]
  clear hW0
  refine (ssurveyValid_any _ _ st l _ hl (hs.below b0)).mono ?_
  rintro e w1 ⟨rfl, b1⟩
  rw [hv]
  replace F0 := F0.below b1
  replace b0 := b0.trans (b1.mono b0.size)
  clear b1 W0
  obtain ⟨s0, s1, s2, -, -⟩ := F0.s
  go_wp2_with fail
  clear s0 s1 s2
  have hX1 := F0.r.lt
  refine (l7Survey_any _ _ st l _ hl (hs.below b0)).mono ?_
  rintro e w2 ⟨v, rfl, o1, b1⟩
  obtain ⟨av, cv, rfl⟩ := o1.sl
  replace F0 := F0.below b1
  have bw2 := b0.trans (b1.mono b0.size)
  have hB1 : w1.heap.size ≤ w2.heap.size := b1.size
  have hBw := b0.size
  have hoY : ∀ k, (Value.slice av l.length cv).ownBlock = some k → k < w2.heap.size := fun k hk => (o1.lt hk).2
  clear b1
  obtain ⟨d0, d1, d2, d3, d4, d5, d6, d7⟩ := F0.d
  simp only at d1 d2 d3 d4 d5 d6 d7
  go_wp2_with fail
  obtain ⟨Y, hY⟩ : ∃ Y, w2.heap.size = Y := ⟨_, rfl⟩
  obtain ⟨W3, hW3⟩ : ∃ W3, W3 = w2.alloc (.cells #[.int .i64 st, .slice av l.length cv] 24) := ⟨_, rfl⟩
  have A0 : AtS W3 Y st (.slice av l.length cv) := by rw [hW3, ← hY]; exact AtS.new w2 st _ _
  have b3 : Below w2.heap.size w2 W3 := by rw [hW3]; exact (by repeat (first | with_reducible assumption | exact Below.refl _ _ | refine below_drewN ?_ _ | refine Below.drew ?_ | refine Below.alloc ?_ (by first | omega | (simp; done) | (simp; omega)) _ | refine Below.setCell ?_ (by first | omega | (simp; done) | (simp; omega)) _))
  rw [hY, ← hW3]
  clear hW3 d0 d1 d2 d3 d4 d5 d6 d7
  replace F0 := F0.below b3
  replace o1 := o1.below b3
  replace bw2 := bw2.trans (b3.mono bw2.size)
  rw [hY] at hB1 hoY
  clear b3 b0 hY w2
  refine (l7Deed_any ⟨4, 0, ⟨x1, x2, x3, x4, x5⟩⟩ _).mono ?_
  rintro e W4 ⟨rfl, hgr⟩
  rw [hin]
  replace F0 := F0.below hgr
  replace A0 := A0.below hgr
  replace o1 := o1.below hgr
  replace bw2 := bw2.trans (hgr.mono bw2.size)
  clear hgr W3
  obtain ⟨s0, s1, s2, -, -⟩ := F0.s
  obtain ⟨d0, d1, d2, d3, d4, d5, d6, d7⟩ := F0.d
  simp only at d1 d2 d3 d4 d5 d6 d7
  go_wp2_with fail
  refine (l1In_any (0) 0 ((l.length : Int) - 1) _).mono ?_
  rintro e W4' ⟨rfl, hww⟩
  obtain rfl := hww
  go_wp2_with fail
  go_quiet (fail)
  obtain ⟨V, hV⟩ : ∃ V, V = W4.drewN nq := ⟨_, rfl⟩
  have bV : Below W4.heap.size W4 V := by rw [hV]; exact below_drewN (Below.refl _ _) _
  rw [← hV]
  replace F0 := F0.below bV
  replace A0 := A0.below bV
  replace o1 := o1.below bV
  replace bw2 := bw2.trans (bV.mono bw2.size)
  clear hV bV s0 s1 s2 d0 d1 d2 d3 d4 d5 d6 d7 W4
  obtain ⟨s0, s1, s2, -, -⟩ := F0.s
  obtain ⟨d0, d1, d2, d3, d4, d5, d6, d7⟩ := F0.d
  simp only at d1 d2 d3 d4 d5 d6 d7
  obtain ⟨a0, a1, a2, a3, a4⟩ := id A0
  go_wp2_with fail
  obtain ⟨W5, hW5⟩ : ∃ W5, W5 = V.setCell ⟨Y, 0, none⟩ (.int .i64 (st + 1)) := ⟨_, rfl⟩
  rw [← hW5]
  have hYs : (Value.slice av l.length cv).ownBlock ≠ some Y := fun h => absurd (hoY _ h) (Nat.lt_irrefl _)
  have b5 : Below w1.heap.size V W5 := by rw [hW5]; exact (Below.refl _ _).setCell (by show _ ≤ Y; omega) _
  have F5 := F0.belowB b5 hX1
  have A5 : AtS W5 Y (st + 1) (.slice av l.length cv) := by rw [hW5]; exact A0.set0 _
  have o5 : OwnL W5 w1.heap.size (.slice av l.length cv) l := by rw [hW5]; exact o1.setOther (p := ⟨Y, 0, none⟩) hYs _
  have bw5 := bw2.trans (b5.mono hBw)
  clear hW5 b5 F0 A0 o1 bw2 a0 a1 a2 a3 a4 s0 s1 s2 d0 d1 d2 d3 d4 d5 d6 d7 V
  have hlz := hl
  have hlz : l.length ≤ 1048576 := hlz
  obtain ⟨s0, s1, s2, -, -⟩ := F5.s
  have HT := Lib.hid ht
  clear ht
  refine (ssurveyValid_any _ _ (st + 1) l _ hlz (by obtain ⟨_, _, e, _, _, hr⟩ := o5.rd; cases e; exact hr)).mono ?_
  rintro e w6 ⟨rfl, b6⟩
  clear s0 s1 s2
  cases hk : svOk ⟨st + 1, l⟩
  · replace F5 := F5.below b6
    replace bw5 := bw5.trans (b6.mono bw5.size)
    clear b6 o5 A5
    obtain ⟨s0, s1, s2, -, -⟩ := F5.s
    go_wp2_with fail
    refine (l7Survey_any _ _ st l _ hl (hs.below bw5)).mono ?_
    rintro e w7 ⟨v7, rfl, o7, b7⟩
    obtain ⟨a7, c7, rfl⟩ := o7.sl
    clear s0 s1 s2
    have hX7 := F5.r.lt
    have hB7 := bw5.size
    replace F5 := F5.below b7
    replace bw5 := bw5.trans (b7.mono bw5.size)
    obtain ⟨r0, r1, r2, r3, r4⟩ := F5.r
    clear b7 F5
    go_wp2_with fail
    have oF := ((o7.setCell (p := ⟨X + 1 + 1, 0, none⟩) hX7 (.int .i64 st)).setCell (p := ⟨X + 1 + 1, 1, none⟩) hX7 (.slice a7 l.length c7)).mono hB7
    have bF : Below w.heap.size w ((w7.setCell ⟨X + 1 + 1, 0, none⟩ (.int .i64 st)).setCell ⟨X + 1 + 1, 1, none⟩ (.slice a7 l.length c7)) := (bw5.setCell (by show _ ≤ X + 1 + 1; omega) _).setCell (by show _ ≤ X + 1 + 1; omega) _
    refine bodyPost_ret (v := .tuple #[.agg #[.int .i64 st, .slice a7 l.length c7], .bool false]) (by simp [results, Tryz.results13, go_sem, r1, r2]) rfl ?_
    rw [ddDo_fail hv HT.out hk]
    exact ⟨_, rfl, oF, bF⟩
  · replace F5 := F5.below b6
    replace bw5 := bw5.trans (b6.mono bw5.size)
    replace o5 := o5.below b6
    replace A5 := A5.below b6
    clear b6
    obtain ⟨r0, r1, r2, r3, r4⟩ := F5.r
    obtain ⟨a0, a1, a2, a3, a4⟩ := A5
    go_wp2_with fail
    have oF := ((o5.setCell (p := ⟨X + 1 + 1, 0, none⟩) hX1 (.int .i64 (st + 1))).setCell (p := ⟨X + 1 + 1, 1, none⟩) hX1 (.slice av l.length cv)).mono hBw
    have bF : Below w.heap.size w ((w6.setCell ⟨X + 1 + 1, 0, none⟩ (.int .i64 (st + 1))).setCell ⟨X + 1 + 1, 1, none⟩ (.slice av l.length cv)) := (bw5.setCell (by show _ ≤ X + 1 + 1; omega) _).setCell (by show _ ≤ X + 1 + 1; omega) _
    refine bodyPost_ret (v := .tuple #[.agg #[.int .i64 (st + 1), .slice av l.length cv], .bool true]) (by simp [results, Tryz.results13, go_sem, r1, r2]) rfl ?_
    rw [ddDo_some hv HT.out hk]
    exact ⟨_, rfl, oF, bF⟩

set_option maxHeartbeats 2000000 in
theorem sdeedDo_step5 (a : Option Addr) (c : Nat) (st : Int) (l : List Lg) (g : Lg) (w : World) (hl : l.length ≤ 1048576) (hs : Legs w a l) (hv : svOk ⟨st, l⟩ = true) (hin : ddIn ⟨5, 0, g⟩ = true) (ht : ddTry ⟨st, l⟩ ⟨5, 0, g⟩ = some ⟨st - 1, l⟩) (hst : 1 ≤ st ∧ st ≤ 6) :
    Calls Tryz.prog 13 #[.agg #[.int .i64 st, .slice a l.length c], (⟨5, 0, g⟩ : Dd).val] w (SvOut (ddDo ⟨st, l⟩ ⟨5, 0, g⟩) w) := by
  obtain ⟨x1, x2, x3, x4, x5⟩ := g
  show Calls Tryz.prog 13 #[.agg #[.int .i64 st, .slice a l.length c], .agg #[.int .i64 5, .int .i64 0, .int .i64 x1, .int .i64 x2, .int .i64 x3, .int .i64 x4, .int .i64 x5]] w _
  obtain ⟨hst1, hst2⟩ := hst
  go_enter Tryz.func13, Tryz.ntmps13
  go_wp2_with fail
  obtain ⟨X, hX⟩ : ∃ X, w.heap.size = X := ⟨_, rfl⟩
  obtain ⟨W0, hW0⟩ : ∃ W0, W0 = ((w.alloc (.cells #[.int .i64 st, .slice a l.length c] 24)).alloc (.cells #[.int .i64 5, .int .i64 0, .int .i64 x1, .int .i64 x2, .int .i64 x3, .int .i64 x4, .int .i64 x5] 41)).alloc (.cells #[.int .i64 0, .slice none 0 0] 24) := ⟨_, rfl⟩
  have F0 : Fr W0 X st (.slice a l.length c) ⟨5, 0, ⟨x1, x2, x3, x4, x5⟩⟩ := by rw [hW0, ← hX]; exact Fr.new w st _ ⟨5, 0, ⟨x1, x2, x3, x4, x5⟩⟩ _ _ _
  have b0 : Below w.heap.size w W0 := by rw [hW0]; exact (by repeat (first | with_reducible assumption | exact Below.refl _ _ | refine below_drewN ?_ _ | refine Below.drew ?_ | refine Below.alloc ?_ (by first | omega | (simp; done) | (simp; omega)) _ | refine Below.setCell ?_ (by first | omega | (simp; done) | (simp; omega)) _))
  rw [hX, ← hW0]
  clear hW0
  refine (ssurveyValid_any _ _ st l _ hl (hs.below b0)).mono ?_
  rintro e w1 ⟨rfl, b1⟩
  rw [hv]
  replace F0 := F0.below b1
  replace b0 := b0.trans (b1.mono b0.size)
  clear b1 W0
  obtain ⟨s0, s1, s2, -, -⟩ := F0.s
  go_wp2_with fail
  clear s0 s1 s2
  have hX1 := F0.r.lt
  refine (l7Survey_any _ _ st l _ hl (hs.below b0)).mono ?_
  rintro e w2 ⟨v, rfl, o1, b1⟩
  obtain ⟨av, cv, rfl⟩ := o1.sl
  replace F0 := F0.below b1
  have bw2 := b0.trans (b1.mono b0.size)
  have hB1 : w1.heap.size ≤ w2.heap.size := b1.size
  have hBw := b0.size
  have hoY : ∀ k, (Value.slice av l.length cv).ownBlock = some k → k < w2.heap.size := fun k hk => (o1.lt hk).2
  clear b1
  obtain ⟨d0, d1, d2, d3, d4, d5, d6, d7⟩ := F0.d
  simp only at d1 d2 d3 d4 d5 d6 d7
  go_wp2_with fail
  obtain ⟨Y, hY⟩ : ∃ Y, w2.heap.size = Y := ⟨_, rfl⟩
  obtain ⟨W3, hW3⟩ : ∃ W3, W3 = w2.alloc (.cells #[.int .i64 st, .slice av l.length cv] 24) := ⟨_, rfl⟩
  have A0 : AtS W3 Y st (.slice av l.length cv) := by rw [hW3, ← hY]; exact AtS.new w2 st _ _
  have b3 : Below w2.heap.size w2 W3 := by rw [hW3]; exact (by repeat (first | with_reducible assumption | exact Below.refl _ _ | refine below_drewN ?_ _ | refine Below.drew ?_ | refine Below.alloc ?_ (by first | omega | (simp; done) | (simp; omega)) _ | refine Below.setCell ?_ (by first | omega | (simp; done) | (simp; omega)) _))
  rw [hY, ← hW3]
  clear hW3 d0 d1 d2 d3 d4 d5 d6 d7
  replace F0 := F0.below b3
  replace o1 := o1.below b3
  replace bw2 := bw2.trans (b3.mono bw2.size)
  rw [hY] at hB1 hoY
  clear b3 b0 hY w2
  refine (l7Deed_any ⟨5, 0, ⟨x1, x2, x3, x4, x5⟩⟩ _).mono ?_
  rintro e W4 ⟨rfl, hgr⟩
  rw [hin]
  replace F0 := F0.below hgr
  replace A0 := A0.below hgr
  replace o1 := o1.below hgr
  replace bw2 := bw2.trans (hgr.mono bw2.size)
  clear hgr W3
  obtain ⟨s0, s1, s2, -, -⟩ := F0.s
  obtain ⟨d0, d1, d2, d3, d4, d5, d6, d7⟩ := F0.d
  simp only at d1 d2 d3 d4 d5 d6 d7
  go_wp2_with fail
  refine (l1In_any (0) 0 ((l.length : Int) - 1) _).mono ?_
  rintro e W4' ⟨rfl, hww⟩
  obtain rfl := hww
  go_wp2_with fail
  go_quiet (fail)
  obtain ⟨V, hV⟩ : ∃ V, V = W4.drewN nq := ⟨_, rfl⟩
  have bV : Below W4.heap.size W4 V := by rw [hV]; exact below_drewN (Below.refl _ _) _
  rw [← hV]
  replace F0 := F0.below bV
  replace A0 := A0.below bV
  replace o1 := o1.below bV
  replace bw2 := bw2.trans (bV.mono bw2.size)
  clear hV bV s0 s1 s2 d0 d1 d2 d3 d4 d5 d6 d7 W4
  obtain ⟨s0, s1, s2, -, -⟩ := F0.s
  obtain ⟨d0, d1, d2, d3, d4, d5, d6, d7⟩ := F0.d
  simp only at d1 d2 d3 d4 d5 d6 d7
  obtain ⟨a0, a1, a2, a3, a4⟩ := id A0
  go_wp2_with fail
  obtain ⟨W5, hW5⟩ : ∃ W5, W5 = V.setCell ⟨Y, 0, none⟩ (.int .i64 (st - 1)) := ⟨_, rfl⟩
  rw [← hW5]
  have hYs : (Value.slice av l.length cv).ownBlock ≠ some Y := fun h => absurd (hoY _ h) (Nat.lt_irrefl _)
  have b5 : Below w1.heap.size V W5 := by rw [hW5]; exact (Below.refl _ _).setCell (by show _ ≤ Y; omega) _
  have F5 := F0.belowB b5 hX1
  have A5 : AtS W5 Y (st - 1) (.slice av l.length cv) := by rw [hW5]; exact A0.set0 _
  have o5 : OwnL W5 w1.heap.size (.slice av l.length cv) l := by rw [hW5]; exact o1.setOther (p := ⟨Y, 0, none⟩) hYs _
  have bw5 := bw2.trans (b5.mono hBw)
  clear hW5 b5 F0 A0 o1 bw2 a0 a1 a2 a3 a4 s0 s1 s2 d0 d1 d2 d3 d4 d5 d6 d7 V
  have hlz := hl
  have hlz : l.length ≤ 1048576 := hlz
  obtain ⟨s0, s1, s2, -, -⟩ := F5.s
  have HT := Lib.hid ht
  clear ht
  refine (ssurveyValid_any _ _ (st - 1) l _ hlz (by obtain ⟨_, _, e, _, _, hr⟩ := o5.rd; cases e; exact hr)).mono ?_
  rintro e w6 ⟨rfl, b6⟩
  clear s0 s1 s2
  cases hk : svOk ⟨st - 1, l⟩
  · replace F5 := F5.below b6
    replace bw5 := bw5.trans (b6.mono bw5.size)
    clear b6 o5 A5
    obtain ⟨s0, s1, s2, -, -⟩ := F5.s
    go_wp2_with fail
    refine (l7Survey_any _ _ st l _ hl (hs.below bw5)).mono ?_
    rintro e w7 ⟨v7, rfl, o7, b7⟩
    obtain ⟨a7, c7, rfl⟩ := o7.sl
    clear s0 s1 s2
    have hX7 := F5.r.lt
    have hB7 := bw5.size
    replace F5 := F5.below b7
    replace bw5 := bw5.trans (b7.mono bw5.size)
    obtain ⟨r0, r1, r2, r3, r4⟩ := F5.r
    clear b7 F5
    go_wp2_with fail
    have oF := ((o7.setCell (p := ⟨X + 1 + 1, 0, none⟩) hX7 (.int .i64 st)).setCell (p := ⟨X + 1 + 1, 1, none⟩) hX7 (.slice a7 l.length c7)).mono hB7
    have bF : Below w.heap.size w ((w7.setCell ⟨X + 1 + 1, 0, none⟩ (.int .i64 st)).setCell ⟨X + 1 + 1, 1, none⟩ (.slice a7 l.length c7)) := (bw5.setCell (by show _ ≤ X + 1 + 1; omega) _).setCell (by show _ ≤ X + 1 + 1; omega) _
    refine bodyPost_ret (v := .tuple #[.agg #[.int .i64 st, .slice a7 l.length c7], .bool false]) (by simp [results, Tryz.results13, go_sem, r1, r2]) rfl ?_
    rw [ddDo_fail hv HT.out hk]
    exact ⟨_, rfl, oF, bF⟩
  · replace F5 := F5.below b6
    replace bw5 := bw5.trans (b6.mono bw5.size)
    replace o5 := o5.below b6
    replace A5 := A5.below b6
    clear b6
    obtain ⟨r0, r1, r2, r3, r4⟩ := F5.r
    obtain ⟨a0, a1, a2, a3, a4⟩ := A5
    go_wp2_with fail
    have oF := ((o5.setCell (p := ⟨X + 1 + 1, 0, none⟩) hX1 (.int .i64 (st - 1))).setCell (p := ⟨X + 1 + 1, 1, none⟩) hX1 (.slice av l.length cv)).mono hBw
    have bF : Below w.heap.size w ((w6.setCell ⟨X + 1 + 1, 0, none⟩ (.int .i64 (st - 1))).setCell ⟨X + 1 + 1, 1, none⟩ (.slice av l.length cv)) := (bw5.setCell (by show _ ≤ X + 1 + 1; omega) _).setCell (by show _ ≤ X + 1 + 1; omega) _
    refine bodyPost_ret (v := .tuple #[.agg #[.int .i64 (st - 1), .slice av l.length cv], .bool true]) (by simp [results, Tryz.results13, go_sem, r1, r2]) rfl ?_
    rw [ddDo_some hv HT.out hk]
    exact ⟨_, rfl, oF, bF⟩
end Go.Proofs.YtgggbapcpjfljaaGreatDoor
