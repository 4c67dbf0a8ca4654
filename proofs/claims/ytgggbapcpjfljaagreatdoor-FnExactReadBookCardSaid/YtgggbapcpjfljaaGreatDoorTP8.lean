/- Walks: spec.ReadLeg whole. -/
import Derived.Test.YtgggbapcpjfljaaGreatDoorTP7
namespace Go.Proofs.YtgggbapcpjfljaaGreatDoor
open Go Go.RowKit Go.Sort

set_option maxRecDepth 100000 in
set_option maxHeartbeats 2000000 in
theorem sreadLeg_yes (s p q f t x y z : ByteArray) (w : World) (hs : s.size ≤ 1048576) (hpq : cutB 58 s = [p, q]) (h2 : cutB 62 p = [f, t]) (h3 : cutB 44 q = [x, y, z]) : Calls Tryz.prog 26 #[.string s] w (LgOut (rdLegD s) w) := by
    have hc := cand_yes hpq h2 h3
    have hp : p.size ≤ 1048576 := Nat.le_trans (cutB_le (sep := 58) (s := s) (by rw [hpq]; simp)) hs
    have hq : q.size ≤ 1048576 := Nat.le_trans (cutB_le (sep := 58) (s := s) (by rw [hpq]; simp)) hs
    have i1 := l1Cut58 s
    have i2 := l1Cut62 p
    have i3 := l1Cut44 q
    rw [hpq] at i1
    rw [h2] at i2
    rw [h3] at i3
    simp only [List.length_cons, List.length_nil, Nat.zero_add] at i1 i2 i3
    clear hpq h2 h3
    obtain ⟨d1, d2⟩ := rdL_range f.data.toList
    obtain ⟨d3, d4⟩ := rdL_range t.data.toList
    obtain ⟨d5, d6⟩ := rdL_range x.data.toList
    obtain ⟨d7, d8⟩ := rdL_range y.data.toList
    obtain ⟨d9, d10⟩ := rdL_range z.data.toList
    have r1 := l1Read_any f
    have r2 := l1Read_any t
    have r3 := l1Read_any x
    have r4 := l1Read_any y
    have r5 := l1Read_any z
    generalize rdL f.data.toList = n1 at *
    generalize rdL t.data.toList = n2 at *
    generalize rdL x.data.toList = n3 at *
    generalize rdL y.data.toList = n4 at *
    generalize rdL z.data.toList = n5 at *
    have HC := Lib.hid hc
    clear hc
    have it := slegText_any ⟨n1, n2, n3, n4, n5⟩
    obtain ⟨L, hL⟩ : ∃ L, L = legB ⟨n1, n2, n3, n4, n5⟩ := ⟨_, rfl⟩
    rw [← hL] at it
    have HL := Lib.hid hL
    clear hL
    simp only [Lg.val] at it
    go_enter Tryz.func26, Tryz.ntmps26
    go_wp2_with fail
    obtain ⟨X, hX⟩ : ∃ X, w.heap.size = X := ⟨_, rfl⟩
    obtain ⟨W0, hW0⟩ : ∃ W0, W0 = w.alloc (.cells #[.int .i64 0, .int .i64 0, .int .i64 0, .int .i64 0, .int .i64 0] 39) := ⟨_, rfl⟩
    have F0 : At W0 X [.int .i64 0, .int .i64 0, .int .i64 0, .int .i64 0, .int .i64 0] := by rw [hW0]; exact At.new _ _ _ hX.symm rfl
    have b0 : Below w.heap.size w W0 := by rw [hW0]; exact (by repeat (first | with_reducible assumption | exact Below.refl _ _ | refine below_drewN ?_ _ | refine Below.drew ?_ | refine Below.alloc ?_ (by first | omega | (simp; done) | (simp; omega)) _ | refine Below.setCell ?_ (by first | omega | (simp; done) | (simp; omega)) _))
    rw [hX, ← hW0]
    clear hW0
    refine (i1 _ hs).mono ?_
    rintro e w1 ⟨a1, c1, rfl, o1, b1⟩
    replace F0 := F0.below b1
    replace b0 := b0.trans (b1.mono b0.size)
    clear b1 i1
    obtain ⟨B1, rfl, hB1, hl1, hc1⟩ := OwnT.cells o1 (by simp)
    have m0 : w1.cell? ⟨B1, 0, none⟩ = some (.string p) := hc1 0 (by simp)
    have m1 : w1.cell? ⟨B1, 1, none⟩ = some (.string q) := hc1 1 (by simp)
    clear hc1 o1
    go_wp2_with fail
    refine (i2 _ hp).mono ?_
    rintro e w2 ⟨a2, c2, rfl, o2, b2⟩
    replace F0 := F0.below b2
    replace b0 := b0.trans (b2.mono b0.size)
    replace m1 := (b2.cell (p := ⟨B1, 1, none⟩) hl1).trans m1
    have hl2 := Nat.lt_of_lt_of_le hl1 b2.size
    clear b2 m0 hl1 i2
    go_wp2_with fail
    refine (i3 _ hq).mono ?_
    rintro e w3 ⟨a3, c3, rfl, o3, b3⟩
    replace F0 := F0.below b3
    replace o2 := o2.below b3
    replace b0 := b0.trans (b3.mono b0.size)
    clear b3 m1 hl2 i3
    obtain ⟨B2, rfl, hB2, hl2, hc2⟩ := OwnT.cells o2 (by simp)
    obtain ⟨B3, rfl, hB3, hl3, hc3⟩ := OwnT.cells o3 (by simp)
    have u0 : w3.cell? ⟨B2, 0, none⟩ = some (.string f) := hc2 0 (by simp)
    have u1 : w3.cell? ⟨B2, 1, none⟩ = some (.string t) := hc2 1 (by simp)
    have v0 : w3.cell? ⟨B3, 0, none⟩ = some (.string x) := hc3 0 (by simp)
    have v1 : w3.cell? ⟨B3, 1, none⟩ = some (.string y) := hc3 1 (by simp)
    have v2 : w3.cell? ⟨B3, 2, none⟩ = some (.string z) := hc3 2 (by simp)
    clear hc2 hc3 o2 o3
    go_upto_region 8 with fail
    go_cut [7] (Boxed w3 [.int .i64 n1, .int .i64 n2, .int .i64 n3, .int .i64 n4, .int .i64 n5])
    case first =>
      go_region_held3 (fun w' => Below w3.heap.size w3 w' ∧ ∀ b o, b < w3.heap.size → w'.cell? ⟨b, o, none⟩ = w3.cell? ⟨b, o, none⟩) (exact kept (by repeat (first | with_reducible assumption | with_reducible exact Below.refl _ _ | with_reducible refine Below.setCell ?_ (by first | omega | (simp; done) | (simp; omega)) _ | with_reducible refine Below.alloc ?_ (by first | omega | (simp; done) | (simp; omega)) _ | with_reducible refine Below.drew ?_)))
        (first
        | (go_at_call 25; (with_reducible refine (r1 _).mono ?_); rintro e wy ⟨rfl, rfl⟩)
        | (go_at_call 25; (with_reducible refine (r2 _).mono ?_); rintro e wy ⟨rfl, rfl⟩)
        | (go_at_call 25; (with_reducible refine (r3 _).mono ?_); rintro e wy ⟨rfl, rfl⟩)
        | (go_at_call 25; (with_reducible refine (r4 _).mono ?_); rintro e wy ⟨rfl, rfl⟩)
        | (go_at_call 25; (with_reducible refine (r5 _).mono ?_); rintro e wy ⟨rfl, rfl⟩))
      all_goals (go_wp2_with fail; go_meet)
      all_goals exact ⟨_, rfl, Nat.le_refl _, (At.new _ _ _ rfl rfl).drew, (by repeat (first | with_reducible assumption | exact Below.refl _ _ | refine below_drewN ?_ _ | refine Below.drew ?_ | refine Below.alloc ?_ (by first | omega | (simp; done) | (simp; omega)) _ | refine Below.setCell ?_ (by first | omega | (simp; done) | (simp; omega)) _))⟩
    case rest =>
      obtain ⟨Y, rfl, hY, AY, bY⟩ := hcut
      replace F0 := F0.below bY
      replace b0 := b0.trans (bY.mono b0.size)
      clear v0 v1 v2 hl2 hl3 bY r1 r2 r3 r4 r5
      obtain ⟨t5, t0, t1, t2, t3, t4, tf⟩ := id AY.facts5
      go_wp2_with fail
      refine (it _).mono ?_
      rintro e w4 ⟨rfl, b4⟩
      replace F0 := F0.below b4
      replace AY := AY.below b4
      replace b0 := b0.trans (b4.mono b0.size)
      clear t0 t1 t2 t3 t4 t5 tf b4 it
      obtain ⟨t5, t0, t1, t2, t3, t4, tf⟩ := id AY.facts5
      obtain ⟨r, r0, r1, r2, r3, r4, rf⟩ := id F0.facts5
      have hne := run_strNe L s
      have hem := isEmpty_size s
      clear AY F0
      by_cases hLs : L = s
      · subst hLs
        simp only [decide_true, Bool.not_true] at hne
        by_cases h0 : L.size = 0
        · rw [decide_eq_true h0] at hem
          have HE := Lib.hid (rdLegD_not HC.out (fun h => h.2 h0))
          clear h0
          go_wp2_with fail
          refine bodyPost_ret (v := .tuple #[.agg #[.int .i64 0, .int .i64 0, .int .i64 0, .int .i64 0, .int .i64 0], .bool false]) (by simp [results, Tryz.results26, go_sem, r0, r1, r2, r3, r4]) rfl ⟨by rw [HE.out]; rfl, ?_⟩
          exact below_set5 b0 (by omega) _ _ _ _ _
        · rw [decide_eq_false h0] at hem
          have HE := Lib.hid (rdLegD_yes HC.out ⟨HL.out.symm, h0⟩)
          clear h0
          go_wp2_with fail
          refine bodyPost_ret (v := .tuple #[.agg #[.int .i64 n1, .int .i64 n2, .int .i64 n3, .int .i64 n4, .int .i64 n5], .bool true]) (by simp [results, Tryz.results26, go_sem, r0, r1, r2, r3, r4]) rfl ⟨by rw [HE.out], ?_⟩
          exact below_set5 b0 (by omega) _ _ _ _ _
      · rw [decide_eq_false hLs, Bool.not_false] at hne
        have HE := Lib.hid (rdLegD_not HC.out (fun h => hLs (HL.out.trans h.1)))
        have hne2 : ¬ L.toList = s.toList := by rw [Lib.toList_data, Lib.toList_data]; exact fun e => hLs (ByteArray.ext (Array.ext' e))
        clear hLs
        go_wp2_with fail
        refine bodyPost_ret (v := .tuple #[.agg #[.int .i64 0, .int .i64 0, .int .i64 0, .int .i64 0, .int .i64 0], .bool false]) (by simp [results, Tryz.results26, go_sem, r0, r1, r2, r3, r4]) rfl ⟨by rw [HE.out]; rfl, ?_⟩
        exact below_set5 b0 (by omega) _ _ _ _ _

theorem sreadLeg_any (s : ByteArray) (w : World) (hs : s.size ≤ 1048576) : Calls Tryz.prog 26 #[.string s] w (LgOut (rdLegD s) w) := by
  by_cases h2 : (cutB 58 s).length = 2
  · obtain ⟨p, q, hpq⟩ := two_list h2
    by_cases h3 : (cutB 62 p).length = 2 ∧ (cutB 44 q).length = 3
    · obtain ⟨f, t, hf⟩ := two_list h3.1
      obtain ⟨x, y, z, hx⟩ := three_list h3.2
      exact sreadLeg_yes s p q f t x y z w hs hpq hf hx
    · have h4 : (cutB 62 p).length ≠ 2 ∨ (cutB 44 q).length ≠ 3 := by omega
      rw [rdLegD_cand_no (cand_no23 hpq h4)]
      exact sreadLeg_no23 s p q w hs hpq h4
  · rw [rdLegD_cand_no (cand_no2 h2)]
    exact sreadLeg_no2 s w hs h2
end Go.Proofs.YtgggbapcpjfljaaGreatDoor
