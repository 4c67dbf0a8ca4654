/- Walks of draws: DrawReadDeed, DrawDeedText. -/
import Derived.Test.YtdgnndlhnblenaaDoorR5
import Derived.Test.YtdgnndlhnblenaaDoorR3
import Derived.Test.YtdgnndlhnblenaaDoorT1
set_option linter.unusedSimpArgs false
set_option linter.unusedVariables false
namespace Go.Proofs.YtdgnndlhnblenaaDoor
open Go Go.RowKit Go.Sort

set_option maxRecDepth 100000 in
theorem drawReadDeed_any (a : Option Addr) (n c : Nat) (w : World) (hc : n ≤ c) (hn : n ≤ 1048576) (hb : Bytes w a n) : Calls Tryd.prog 54 #[.slice a n c] w (DrawnTx 2001 w) := by
  go_enter Tryd.func54, Tryd.ntmps54
  go_wp2_with fail
  refine (l20Open_any a n c _ hc hn hb).mono ?_
  rintro e w1 ⟨n', c', rfl, hr, b0⟩
  obtain ⟨R, hR⟩ : ∃ R, w.heap.size = R := ⟨_, rfl⟩
  rw [hR] at hr ⊢
  have hwR : w.heap.size ≤ R := by omega
  clear hR
  go_wp2_with fail
  refine (l20Survey_any R a n' c' 0 0 _ hr (by omega) (by omega)).mono ?_
  rintro e w2 ⟨⟨st, l⟩, v, q, rfl, o, hl, hst, hq, hr2, u2⟩
  obtain ⟨av, cv, rfl⟩ := o.sl
  replace b0 := upto_new b0 hwR b0.size u2
  simp only at o hl hst ⊢
  clear u2 hr o
  go_wp2_with fail
  refine (l20Deed_any R a n' c' _ av l.length cv st _ hr2 (by omega) hl hst).mono ?_
  rintro e w3 ⟨⟨kd, ix, ⟨g1, g2, g3, g4, g5⟩⟩, q3, rfl, -, -, hq3, hr3, u3⟩
  replace b0 := upto_new b0 hwR b0.size u3
  clear u3 hr2
  have i1 := sdeedText_any ⟨kd, ix, ⟨g1, g2, g3, g4, g5⟩⟩
  have htl := deedB_le ⟨kd, ix, ⟨g1, g2, g3, g4, g5⟩⟩
  obtain ⟨t, ht⟩ : ∃ t, deedB ⟨kd, ix, ⟨g1, g2, g3, g4, g5⟩⟩ = t := ⟨_, rfl⟩
  rw [ht] at i1 htl
  clear ht
  simp only [Dd.val] at i1
  go_wp2_with fail
  refine (i1 _).mono ?_
  rintro e w4 ⟨rfl, b3⟩
  replace hr3 := hr3.below b3
  replace b0 := b0.trans (b3.mono b0.size)
  clear b3 i1
  go_wp2_with fail
  refine (pick_up _ _ _ _ _ _ _ hr3 (by omega) (by omega)).mono ?_
  rintro e w5 ⟨k, rfl, -, -, hr4, u4⟩
  replace b0 := upto_new b0 hwR b0.size (u4 w4.heap.size)
  clear u4 hr3
  by_cases hk : k = 0
  · subst hk
    go_wp2_with fail
    refine (l20Spoil_any R a n' c' _ t _ hr4 (by omega) (by omega)).mono ?_
    rintro e w6 ⟨u, q5, rfl, hu, -, -, u5⟩
    replace b0 := upto_new b0 hwR b0.size u5
    go_wp2_with fail
    go_ret
    exact ⟨u, rfl, by omega, b0⟩
  · have hk' : ((k : Int) == 0) = false := by simpa using hk
    go_wp2_with fail
    go_ret
    exact ⟨t, rfl, by omega, b0⟩
/-- a deed drawn -/
def DrawnD (w : World) (e : Ending) (w' : World) : Prop := ∃ d : Dd, e = .returned (.agg #[.int .i64 d.kind, .int .i64 d.index, .int .i64 d.leg.frm, .int .i64 d.leg.to, .int .i64 d.leg.east, .int .i64 d.leg.north, .int .i64 d.leg.up]) ∧ Below w.heap.size w w'
def inds2 : List Value := [.int .i64 (-1), .int .i64 10]
theorem inds2_get (k : Nat) (h : k < 2) : ∃ x : Int, inds2[k]? = some (.int .i64 x) := by
  have : k = 0 ∨ k = 1 := by omega
  rcases this with rfl | rfl
  · exact ⟨-1, rfl⟩
  · exact ⟨10, rfl⟩
set_option maxRecDepth 100000 in
set_option maxHeartbeats 4000000 in
theorem drawDeedText_any (a : Option Addr) (n c : Nat) (w : World) (hc : n ≤ c) (hn : n ≤ 1048576) (hb : Bytes w a n) : Calls Tryd.prog 48 #[.slice a n c] w (DrawnD w) := by
  obtain ⟨X, hX⟩ : ∃ X, w.heap.size = X := ⟨_, rfl⟩
  obtain ⟨W0, hW0⟩ : ∃ W0, W0 = w.alloc (.cells #[.int .i64 0, .int .i64 0, .int .i64 0, .int .i64 0, .int .i64 0, .int .i64 0, .int .i64 0] 29) := ⟨_, rfl⟩
  have D0 : At W0 X [.int .i64 0, .int .i64 0, .int .i64 0, .int .i64 0, .int .i64 0, .int .i64 0, .int .i64 0] := by rw [hW0]; exact At.new _ _ _ hX.symm rfl
  have b0 : Below w.heap.size w W0 := by rw [hW0]; exact (by repeat (first | with_reducible assumption | exact Below.refl _ _ | refine below_drewN ?_ _ | refine Below.drew ?_ | refine Below.alloc ?_ (by first | omega | (simp; done) | (simp; omega)) _ | refine Below.setCell ?_ (by first | omega | (simp; done) | (simp; omega)) _))
  go_enter Tryd.func48, Tryd.ntmps48
  go_wp2_with fail
  rw [← hW0]
  clear hW0
  refine (l20Open_any a n c _ hc hn (hb.below b0)).mono ?_
  rintro e w1 ⟨n', c', rfl, hr, b1⟩
  obtain ⟨R, hR⟩ : ∃ R, W0.heap.size = R := ⟨_, rfl⟩
  rw [hR] at hr ⊢
  have hXR : X < R := by have := D0.lt; omega
  have hwR : w.heap.size ≤ R := by omega
  replace D0 := D0.below b1
  replace b0 := b0.trans (b1.mono b0.size)
  clear b1 hR
  go_wp2_with fail
  refine (l20Survey_any R a n' c' 0 0 _ hr (by omega) (by omega)).mono ?_
  rintro e w2 ⟨⟨st, l⟩, v, q, rfl, o, hl, hst, hq, hr2, u2⟩
  obtain ⟨av, cv, rfl⟩ := o.sl
  replace D0 := D0.upto u2 D0.lt (by omega)
  replace b0 := upto_new b0 hwR b0.size u2
  simp only at o hl hst ⊢
  clear u2 hr o
  go_wp2_with fail
  refine (l20Deed_any R a n' c' _ av l.length cv st _ hr2 (by omega) hl hst).mono ?_
  rintro e w3 ⟨⟨kd, ix, ⟨g1, g2, g3, g4, g5⟩⟩, q3, rfl, -, -, hq3, hr3, u3⟩
  replace D0 := D0.upto u3 D0.lt (by omega)
  replace b0 := upto_new b0 hwR b0.size u3
  clear u3 hr2
  simp only
  go_upto_region 3 with fail
  obtain ⟨Z, hZ⟩ : ∃ Z, w3.heap.size = Z := ⟨_, rfl⟩
  obtain ⟨V, hV⟩ : ∃ V, V = w3.alloc (.cells #[.int .i64 kd, .int .i64 ix, .int .i64 g1, .int .i64 g2, .int .i64 g3, .int .i64 g4, .int .i64 g5] 29) := ⟨_, rfl⟩
  have Z0 : At V Z [.int .i64 kd, .int .i64 ix, .int .i64 g1, .int .i64 g2, .int .i64 g3, .int .i64 g4, .int .i64 g5] := by rw [hV]; exact At.new _ _ _ hZ.symm rfl
  have bV : Below w3.heap.size w3 V := by rw [hV]; exact (by repeat (first | with_reducible assumption | exact Below.refl _ _ | refine below_drewN ?_ _ | refine Below.drew ?_ | refine Below.alloc ?_ (by first | omega | (simp; done) | (simp; omega)) _ | refine Below.setCell ?_ (by first | omega | (simp; done) | (simp; omega)) _))
  rw [hZ, ← hV]
  have hRZ : R < Z := by have := hr3.lt; omega
  replace D0 := D0.below bV
  replace hr3 := hr3.below bV
  replace b0 := b0.trans (bV.mono b0.size)
  clear hV bV hZ
  go_wp2_with fail
  refine (odd_up R a n' c' _ 9 _ hr3 (by omega) (by omega) (by omega)).mono ?_
  rintro e w4 ⟨ob, rfl, hr4, u4⟩
  have hz4 : w.heap.size ≤ Z := by omega
  replace D0 := D0.upto (u4 (X + 1)) (by omega) (by omega)
  replace Z0 := Z0.upto (u4 (Z + 1)) (by omega) (by omega)
  replace b0 := upto_new b0 hwR hz4 (u4 Z)
  clear u4 hr3
  have hXZ : X < Z := by omega
  have hXw : w.heap.size ≤ X := by omega
  cases ob with
  | false =>
    obtain ⟨z, z0, z1, z2, z3, z4, z5, z6, zf⟩ := id Z0.facts7
    obtain ⟨r, r0, r1, r2, r3, r4, r5, r6, rf⟩ := id D0.facts7
    go_wp2_with fail
    refine bodyPost_ret (v := .agg #[.int .i64 kd, .int .i64 ix, .int .i64 g1, .int .i64 g2, .int .i64 g3, .int .i64 g4, .int .i64 g5]) (by simp [results, Tryd.results48, go_sem, r, r0, r1, r2, r3, r4, r5, r6]) rfl ?_
    exact ⟨⟨kd, ix, ⟨g1, g2, g3, g4, g5⟩⟩, rfl, (by repeat (first | with_reducible assumption | with_reducible exact Below.refl _ _ | with_reducible refine Below.setCell ?_ (by first | omega | (simp; done) | (simp; omega)) _ | with_reducible refine Below.alloc ?_ (by first | omega | (simp; done) | (simp; omega)) _ | with_reducible refine Below.drew ?_))⟩
  | true =>
    have hRV : R < w4.heap.size := hr4.lt
    have hZ4 : Z < w4.heap.size := Z0.lt
    go_wp2_with fail
    refine (pick_up _ _ _ _ _ _ _ (hr4.below (by repeat (first | with_reducible assumption | exact Below.refl _ _ | refine below_drewN ?_ _ | refine Below.drew ?_ | refine Below.alloc ?_ (by first | omega | (simp; done) | (simp; omega)) _ | refine Below.setCell ?_ (by first | omega | (simp; done) | (simp; omega)) _))) (by omega) (by omega)).mono ?_
    rintro e w5 ⟨j, rfl, hj, -, -, u5⟩
    replace hj := hj (by omega)
    obtain ⟨x, hx⟩ := inds2_get j (by omega)
    have A0 := At.bornU (V := w4) hRV (Nat.le_refl _) u5
    have A0k := A0.c j _ hx
    have hj0 : (0 : Int) ≤ (j : Int) := by omega
    have U : Upto w4.heap.size R w4 w5 := Upto.next (Upto.alloc' (Upto.refl _ _ _) (Nat.le_refl _) _) u5
    replace D0 := D0.upto U (by omega) (by omega)
    replace Z0 := Z0.upto U hZ4 (by omega)
    replace b0 := upto_new b0 hwR (by omega) U
    have hF : At (w5.setCell ⟨Z, 1, none⟩ (.int .i64 x)) X [.int .i64 0, .int .i64 0, .int .i64 0, .int .i64 0, .int .i64 0, .int .i64 0, .int .i64 0] := D0.setOther (p := ⟨Z, 1, none⟩) (by show X ≠ Z; omega) _
    have hZ : At (w5.setCell ⟨Z, 1, none⟩ (.int .i64 x)) Z [.int .i64 kd, .int .i64 x, .int .i64 g1, .int .i64 g2, .int .i64 g3, .int .i64 g4, .int .i64 g5] := Z0.set 1 _
    have HB := Lib.hid (b0.setCell (p := ⟨Z, 1, none⟩) hz4 (.int .i64 x))
    obtain ⟨z, z0, z1, z2, z3, z4, z5, z6, zf⟩ := id Z0.facts7
    clear b0 U u5 D0 hr4 hx hb
    go_upto_region 5 with fail
    obtain ⟨W9, hW9⟩ : ∃ W, w5.setCell ⟨Z, 1, none⟩ (.int .i64 x) = W := ⟨_, rfl⟩
    rw [hW9] at hF hZ HB ⊢
    have b9 := HB.out
    clear hW9 z z0 z1 z2 z3 z4 z5 z6 zf Z0 A0 A0k HB
    obtain ⟨z, z0, z1, z2, z3, z4, z5, z6, zf⟩ := id hZ.facts7
    obtain ⟨r, r0, r1, r2, r3, r4, r5, r6, rf⟩ := id hF.facts7
    go_wp2_with fail
    refine bodyPost_ret (v := .agg #[.int .i64 kd, .int .i64 x, .int .i64 g1, .int .i64 g2, .int .i64 g3, .int .i64 g4, .int .i64 g5]) (by simp [results, Tryd.results48, go_sem, r, r0, r1, r2, r3, r4, r5, r6]) rfl ?_
    exact ⟨⟨kd, x, ⟨g1, g2, g3, g4, g5⟩⟩, rfl, (by repeat (first | with_reducible assumption | with_reducible exact Below.refl _ _ | with_reducible refine Below.setCell ?_ (by first | omega | (simp; done) | (simp; omega)) _ | with_reducible refine Below.alloc ?_ (by first | omega | (simp; done) | (simp; omega)) _ | with_reducible refine Below.drew ?_))⟩
end Go.Proofs.YtdgnndlhnblenaaDoor
