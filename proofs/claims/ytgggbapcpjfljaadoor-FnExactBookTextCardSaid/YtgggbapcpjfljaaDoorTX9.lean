/- The law FnExactBookText, walked: for all arguments, wherever they lie in memory, it returns true, and leaves memory as it was. -/
import Derived.Test.YtgggbapcpjfljaaDoorTX8
import Derived.Deep.RegionHeld3
import Derived.Deep.DeepCutAuto
namespace Go.Proofs.YtgggbapcpjfljaaDoor
open Go Go.RowKit Go.Sort

set_option maxRecDepth 100000 in
set_option maxHeartbeats 2000000 in
theorem exactBookText (a0x a0y a0z : Option Addr) (c0x c0y c0z : Nat) (st : Int) (l : List Lg) (d u : List Dd) (w : World) (hl : l.length ≤ 9223372036854775807) (hd : d.length ≤ 9223372036854775807) (hu : u.length ≤ 9223372036854775807) (hs : RdB w a0x a0y a0z ⟨⟨st, l⟩, d, u⟩) (hp : Pow w) :
    Calls Tryd.prog 5 #[.agg #[.int .i64 st, .slice a0x l.length c0x, .slice a0y d.length c0y, .slice a0z u.length c0z]] w fun e w' => e = .returned (.bool true) ∧ Below w.heap.size w w' := by
  obtain ⟨X, hX⟩ : ∃ X, w.heap.size = X := ⟨_, rfl⟩
  obtain ⟨W1, hW1⟩ : ∃ W1, W1 = w.alloc (.cells #[.int .i64 st, .slice a0x l.length c0x, .slice a0y d.length c0y, .slice a0z u.length c0z] 45) := ⟨_, rfl⟩
  have G0 : At W1 X [.int .i64 st, .slice a0x l.length c0x, .slice a0y d.length c0y, .slice a0z u.length c0z] := by rw [hW1]; exact At.new _ _ _ (by simp [hX]) rfl
  have b0 : Below w.heap.size w W1 := by rw [hW1]; exact (by repeat (first | with_reducible assumption | exact Below.refl _ _ | refine below_drewN ?_ _ | refine Below.drew ?_ | refine Below.alloc ?_ (by first | omega | (simp; done) | (simp; omega)) _ | refine Below.setCell ?_ (by first | omega | (simp; done) | (simp; omega)) _))
  by_cases h1 : szB l.length d.length u.length 1048576 < 0
  · go_enter Tryd.func5, Tryd.ntmps5
    go_wp2_with fail
    rw [← hW1]
    clear hW1
    refine (szBook_any _ _ _ _ _ _ _ _ _ _ _ _ hl hd hu (by omega) (by omega)).mono ?_
    rintro e v0 ⟨rfl, c⟩
    go_wp2_with fail
    go_ret
    exact ⟨rfl, b0.trans (c.mono b0.size)⟩
  have hq0 := szB_le h1
  have hlb : l.length ≤ 1048576 ∧ d.length ≤ 1048576 ∧ u.length ≤ 1048576 := by omega
  clear hq0
  have KS := fun a1 a2 a3 c1 c2 c3 w h => sbookText_any a1 a2 a3 c1 c2 c3 st l d u w hlb.1 hlb.2.1 hlb.2.2 h
  have KI := fun a1 a2 a3 c1 c2 c3 w h hp => bookText_any a1 a2 a3 c1 c2 c3 st l d u w hlb.1 hlb.2.1 hlb.2.2 h hp
  obtain ⟨L, hL⟩ : ∃ L, L = bookB ⟨⟨st, l⟩, d, u⟩ := ⟨_, rfl⟩
  simp only [← hL] at KS KI
  clear hL
  have hne : (L.toList != L.toList) = false := by simp
  go_enter Tryd.func5, Tryd.ntmps5
  go_wp2_with fail
  rw [← hW1]
  clear hW1
  refine (szBook_any _ _ _ _ _ _ _ _ _ _ _ _ hl hd hu (by omega) (by omega)).mono ?_
  rintro e v0 ⟨rfl, c1⟩
  replace G0 := G0.below c1
  replace b0 := b0.trans (c1.mono b0.size)
  clear c1
  obtain ⟨t0, t1, t2, t3, t4, -⟩ := id G0.facts4
  go_wp2_with fail
  refine (toBook_any _ _ _ _ _ _ st l d u _ hlb.1 hlb.2.1 hlb.2.2 (hs.below b0)).mono ?_
  rintro e w1 ⟨g1, g2, g3, rfl, o1, c1⟩
  clear t0 t1 t2 t3 t4
  replace G0 := G0.below c1
  replace b0 := b0.trans (c1.mono b0.size)
  clear c1
  go_wp2_with fail
  refine (KS _ _ _ _ _ _ _ o1.kr).mono ?_
  rintro e w2 ⟨rfl, c2⟩
  replace G0 := G0.below c2
  replace b0 := b0.trans (c2.mono b0.size)
  clear c2 o1
  obtain ⟨t0, t1, t2, t3, t4, -⟩ := id G0.facts4
  go_wp2_with fail
  refine (toBook_any _ _ _ _ _ _ st l d u _ hlb.1 hlb.2.1 hlb.2.2 (hs.below b0)).mono ?_
  rintro e w3 ⟨g4, g5, g6, rfl, o3, c3⟩
  clear t0 t1 t2 t3 t4
  replace G0 := G0.below c3
  replace b0 := b0.trans (c3.mono b0.size)
  clear c3
  go_upto_region 7 with fail
  obtain ⟨Bx, hY⟩ : ∃ Y, w3.heap.size = Y := ⟨_, rfl⟩
  obtain ⟨V, hV⟩ : ∃ V, V = w3.alloc (.cells #[.int .i64 st, .slice (some ⟨g4, 0, none⟩) l.length l.length, .slice (some ⟨g5, 0, none⟩) d.length d.length, .slice (some ⟨g6, 0, none⟩) u.length u.length] 50) := ⟨_, rfl⟩
  have c4 : Below w3.heap.size w3 V := by rw [hV]; exact (by repeat (first | with_reducible assumption | exact Below.refl _ _ | refine below_drewN ?_ _ | refine Below.drew ?_ | refine Below.alloc ?_ (by first | omega | (simp; done) | (simp; omega)) _ | refine Below.setCell ?_ (by first | omega | (simp; done) | (simp; omega)) _))
  have Ax : At V Bx [.int .i64 st, .slice (some ⟨g4, 0, none⟩) l.length l.length, .slice (some ⟨g5, 0, none⟩) d.length d.length, .slice (some ⟨g6, 0, none⟩) u.length u.length] := by rw [hV]; exact At.new _ _ _ hY.symm rfl
  rw [hY, ← hV]
  replace G0 := G0.below c4
  replace o3 := o3.below c4
  replace b0 := b0.trans (c4.mono b0.size)
  clear c4 hV hY
  have hq := o3.kr
  clear o3
  obtain ⟨t0, t1, t2, t3, t4, -⟩ := id Ax.facts4
  go_wp2_with fail
  refine (KI _ _ _ _ _ _ _ hq (hp.below b0)).mono ?_
  rintro e w5 ⟨rfl, c5⟩
  clear t0 t1 t2 t3 t4
  replace G0 := G0.below c5
  replace Ax := Ax.below c5
  replace hq := hq.below c5
  replace b0 := b0.trans (c5.mono b0.size)
  clear c5
  obtain ⟨t0, t1, t2, t3, t4, -⟩ := id Ax.facts4
  obtain ⟨s0, s1, s2, s3, s4, -⟩ := id G0.facts4
  have hr := hs.below b0
  go_upto_region 10 with fail
  go_cut [26] (fun p wx => p = .bool false ∧ Below w5.heap.size w5 wx)
  case first =>
    go_region_held3 (fun w' => Below w5.heap.size w5 w' ∧ ∀ b o, b < w5.heap.size → w'.cell? ⟨b, o, none⟩ = w5.cell? ⟨b, o, none⟩) (exact kept (by repeat (first | with_reducible assumption | with_reducible exact Below.refl _ _ | with_reducible refine Below.setCell ?_ (by first | omega | (simp; done) | (simp; omega)) _ | with_reducible refine Below.alloc ?_ (by first | omega | (simp; done) | (simp; omega)) _ | with_reducible refine Below.drew ?_)))
      (first
      | (go_at_call 18; refine (toBook_any _ _ _ _ _ _ st l d u _ hlb.1 hlb.2.1 hlb.2.2 (hr.below (by repeat (first | with_reducible assumption | with_reducible exact Below.refl _ _ | with_reducible refine Below.setCell ?_ (by first | omega | (simp; done) | (simp; omega)) _ | with_reducible refine Below.alloc ?_ (by first | omega | (simp; done) | (simp; omega)) _ | with_reducible refine Below.drew ?_)))).mono ?_; rintro e wy ⟨gyx, gyy, gyz, rfl, oy, c⟩; have By := kept_next (V := w5) (by repeat (first | with_reducible assumption | with_reducible exact Below.refl _ _ | with_reducible refine Below.setCell ?_ (by first | omega | (simp; done) | (simp; omega)) _ | with_reducible refine Below.alloc ?_ (by first | omega | (simp; done) | (simp; omega)) _ | with_reducible refine Below.drew ?_)) c; have zy := By.size; clear c)
      | (go_at_call 20; refine (eqBook_any _ _ _ _ _ _ _ _ _ _ _ _ st l d u _ (by omega) (by omega) (by omega) (hq.below (by repeat (first | with_reducible assumption | with_reducible exact Below.refl _ _ | with_reducible refine Below.setCell ?_ (by first | omega | (simp; done) | (simp; omega)) _ | with_reducible refine Below.alloc ?_ (by first | omega | (simp; done) | (simp; omega)) _ | with_reducible refine Below.drew ?_))) oy.kr).mono ?_; rintro e wz ⟨rfl, c⟩; have Bz := kept_next (V := w5) (by repeat (first | with_reducible assumption | with_reducible exact Below.refl _ _ | with_reducible refine Below.setCell ?_ (by first | omega | (simp; done) | (simp; omega)) _ | with_reducible refine Below.alloc ?_ (by first | omega | (simp; done) | (simp; omega)) _ | with_reducible refine Below.drew ?_)) c; have zz := Bz.size; clear c))
    all_goals (go_wp2_with fail; go_meet)
    all_goals exact ⟨rfl, (by repeat (first | with_reducible assumption | with_reducible exact Below.refl _ _ | with_reducible refine Below.setCell ?_ (by first | omega | (simp; done) | (simp; omega)) _ | with_reducible refine Below.alloc ?_ (by first | omega | (simp; done) | (simp; omega)) _ | with_reducible refine Below.drew ?_))⟩
  case rest =>
    obtain ⟨rfl, bb⟩ := hcut
    go_wp2_with fail
    go_ret
    exact ⟨rfl, b0.trans (bb.mono b0.size)⟩
end Go.Proofs.YtgggbapcpjfljaaDoor
