/- Walks: impl.ReadLeg. -/
import Derived.Test.YtgggbapcpjfljaaGreatDoorTP9
namespace Go.Proofs.YtgggbapcpjfljaaGreatDoor
open Go Go.RowKit Go.Sort

set_option maxRecDepth 100000 in
set_option maxHeartbeats 1000000 in
theorem readLeg_no62 (s : ByteArray) (w : World) (hs : s.size ≤ 1048576) (h : (62 : UInt8) ∉ s.data.toList) (hw : Lby w) : Calls Tryz.prog 36 #[.string s] w (LgOut (noLeg, false) w) := by
  simp only [noLeg]
  have i1 := fun w hw => cut_miss 62 (s := s) w hs h hw
  clear h
  go_enter Tryz.func36, Tryz.ntmps36
  go_wp2_with fail
  obtain ⟨X, hX⟩ : ∃ X, w.heap.size = X := ⟨_, rfl⟩
  obtain ⟨W0, hW0⟩ : ∃ W0, W0 = w.alloc (.cells #[.int .i64 0, .int .i64 0, .int .i64 0, .int .i64 0, .int .i64 0] 39) := ⟨_, rfl⟩
  have F0 : At W0 X [.int .i64 0, .int .i64 0, .int .i64 0, .int .i64 0, .int .i64 0] := by rw [hW0]; exact At.new _ _ _ hX.symm rfl
  have b0 : Below w.heap.size w W0 := by rw [hW0]; exact (by repeat (first | with_reducible assumption | exact Below.refl _ _ | refine below_drewN ?_ _ | refine Below.drew ?_ | refine Below.alloc ?_ (by first | omega | (simp; done) | (simp; omega)) _ | refine Below.setCell ?_ (by first | omega | (simp; done) | (simp; omega)) _))
  rw [hX, ← hW0]
  clear hW0
  refine (i1 _ (hw.below b0)).mono ?_
  rintro e w1 ⟨rfl, b1⟩
  replace F0 := F0.below b1
  replace b0 := b0.trans (b1.mono b0.size)
  clear b1
  obtain ⟨r, r0, r1, r2, r3, r4, rf⟩ := F0.facts5
  clear F0
  go_wp2_with fail
  refine bodyPost_ret (v := .tuple #[.agg #[.int .i64 0, .int .i64 0, .int .i64 0, .int .i64 0, .int .i64 0], .bool false]) (by simp [results, Tryz.results36, go_sem, r0, r1, r2, r3, r4]) rfl ⟨rfl, ?_⟩
  exact below_set5 b0 (by omega) _ _ _ _ _

set_option maxRecDepth 100000 in
set_option maxHeartbeats 1000000 in
theorem readLeg_no58 (s p q : ByteArray) (w : World) (hs : s.size ≤ 1048576) (e1 : s.data.toList = p.data.toList ++ 62 :: q.data.toList) (hp : (62 : UInt8) ∉ p.data.toList) (h : (58 : UInt8) ∉ q.data.toList) (hw : Lby w) : Calls Tryz.prog 36 #[.string s] w (LgOut (noLeg, false) w) := by
  simp only [noLeg]
  have hq := part_le e1
  have i1 := fun w hw => cut_hit 62 w hs e1 hp hw
  have i2 := fun w hw => cut_miss 58 (s := q) w (by omega) h hw
  clear h e1 hp hq
  go_enter Tryz.func36, Tryz.ntmps36
  go_wp2_with fail
  obtain ⟨X, hX⟩ : ∃ X, w.heap.size = X := ⟨_, rfl⟩
  obtain ⟨W0, hW0⟩ : ∃ W0, W0 = w.alloc (.cells #[.int .i64 0, .int .i64 0, .int .i64 0, .int .i64 0, .int .i64 0] 39) := ⟨_, rfl⟩
  have F0 : At W0 X [.int .i64 0, .int .i64 0, .int .i64 0, .int .i64 0, .int .i64 0] := by rw [hW0]; exact At.new _ _ _ hX.symm rfl
  have b0 : Below w.heap.size w W0 := by rw [hW0]; exact (by repeat (first | with_reducible assumption | exact Below.refl _ _ | refine below_drewN ?_ _ | refine Below.drew ?_ | refine Below.alloc ?_ (by first | omega | (simp; done) | (simp; omega)) _ | refine Below.setCell ?_ (by first | omega | (simp; done) | (simp; omega)) _))
  rw [hX, ← hW0]
  clear hW0
  refine (i1 _ (hw.below b0)).mono ?_
  rintro e w1 ⟨rfl, b1⟩
  replace F0 := F0.below b1
  replace b0 := b0.trans (b1.mono b0.size)
  clear b1
  go_wp2_with fail
  refine (i2 _ (hw.below b0)).mono ?_
  rintro e w2 ⟨rfl, b2⟩
  replace F0 := F0.below b2
  replace b0 := b0.trans (b2.mono b0.size)
  clear b2
  obtain ⟨r, r0, r1, r2, r3, r4, rf⟩ := F0.facts5
  clear F0
  go_wp2_with fail
  refine bodyPost_ret (v := .tuple #[.agg #[.int .i64 0, .int .i64 0, .int .i64 0, .int .i64 0, .int .i64 0], .bool false]) (by simp [results, Tryz.results36, go_sem, r0, r1, r2, r3, r4]) rfl ⟨rfl, ?_⟩
  exact below_set5 b0 (by omega) _ _ _ _ _

set_option maxRecDepth 100000 in
set_option maxHeartbeats 1000000 in
theorem readLeg_no3 (s p q t u : ByteArray) (w : World) (hs : s.size ≤ 1048576) (e1 : s.data.toList = p.data.toList ++ 62 :: q.data.toList) (hp : (62 : UInt8) ∉ p.data.toList) (e2 : q.data.toList = t.data.toList ++ 58 :: u.data.toList) (ht : (58 : UInt8) ∉ t.data.toList) (h : (cutB 44 u).length ≠ 3) (hw : Lby w) : Calls Tryz.prog 36 #[.string s] w (LgOut (noLeg, false) w) := by
  simp only [noLeg]
  have hq := part_le e1
  have hu := part_le e2
  have i1 := fun w hw => cut_hit 62 w hs e1 hp hw
  have i2 := fun w hw => cut_hit 58 w (by omega) e2 ht hw
  have i3 := fun w hw => split_any 44 u w (by omega) hw
  have hn : ((cutB 44 u).length : Int) ≠ 3 := by omega
  obtain ⟨N, hN⟩ : ∃ N, N = (cutB 44 u).length := ⟨_, rfl⟩
  rw [← hN] at hn h i3
  clear hN e1 e2 hp ht hq hu
  go_enter Tryz.func36, Tryz.ntmps36
  go_wp2_with fail
  obtain ⟨X, hX⟩ : ∃ X, w.heap.size = X := ⟨_, rfl⟩
  obtain ⟨W0, hW0⟩ : ∃ W0, W0 = w.alloc (.cells #[.int .i64 0, .int .i64 0, .int .i64 0, .int .i64 0, .int .i64 0] 39) := ⟨_, rfl⟩
  have F0 : At W0 X [.int .i64 0, .int .i64 0, .int .i64 0, .int .i64 0, .int .i64 0] := by rw [hW0]; exact At.new _ _ _ hX.symm rfl
  have b0 : Below w.heap.size w W0 := by rw [hW0]; exact (by repeat (first | with_reducible assumption | exact Below.refl _ _ | refine below_drewN ?_ _ | refine Below.drew ?_ | refine Below.alloc ?_ (by first | omega | (simp; done) | (simp; omega)) _ | refine Below.setCell ?_ (by first | omega | (simp; done) | (simp; omega)) _))
  rw [hX, ← hW0]
  clear hW0
  refine (i1 _ (hw.below b0)).mono ?_
  rintro e w1 ⟨rfl, b1⟩
  replace F0 := F0.below b1
  replace b0 := b0.trans (b1.mono b0.size)
  clear b1
  go_wp2_with fail
  refine (i2 _ (hw.below b0)).mono ?_
  rintro e w2 ⟨rfl, b2⟩
  replace F0 := F0.below b2
  replace b0 := b0.trans (b2.mono b0.size)
  clear b2
  go_wp2_with fail
  refine (i3 _ (hw.below b0)).mono ?_
  rintro e w3 ⟨rfl, b3⟩
  replace F0 := F0.alloc (.cells ((cutB 44 u).map Value.string).toArray 9)
  replace b0 := b0.alloc b0.size (.cells ((cutB 44 u).map Value.string).toArray 9)
  rw [b3] at F0 b0
  clear b3
  obtain ⟨r, r0, r1, r2, r3, r4, rf⟩ := F0.facts5
  clear F0
  go_wp2_with fail
  refine bodyPost_ret (v := .tuple #[.agg #[.int .i64 0, .int .i64 0, .int .i64 0, .int .i64 0, .int .i64 0], .bool false]) (by simp [results, Tryz.results36, go_sem, r0, r1, r2, r3, r4]) rfl ⟨rfl, ?_⟩
  exact below_set5 b0 (by omega) _ _ _ _ _
end Go.Proofs.YtgggbapcpjfljaaGreatDoor
