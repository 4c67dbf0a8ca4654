/- The law FnReadDeed, walked: read texts are canonical (written by wip/bin/gen_vb10.py). -/
import Derived.Test.YtdgnndlhnblenaaDoorR6
import Derived.Test.YtdgnndlhnblenaaDoorT1
import Derived.Test.YtdgnndlhnblenaaDoorT6
import Derived.Test.YtdgnndlhnblenaaDoorT2
import Derived.Test.YtdgnndlhnblenaaDoorVB10
set_option linter.unusedSimpArgs false
set_option linter.unusedVariables false
namespace Go.Proofs.YtdgnndlhnblenaaDoor
open Go Go.RowKit Go.Sort

set_option maxRecDepth 100000 in
set_option maxHeartbeats 4000000 in
theorem lawReadDeed (a : Option Addr) (n c : Nat) (w : World) (hc : n ≤ c) (hn : n ≤ 9223372036854775807) (hb : n ≤ 1048576 → Bytes w a n) (hpw : Lby w) :
    Calls Tryd.prog 14 #[.slice a n c] w fun e w' => e = .returned (.bool true) ∧ Below w.heap.size w w' := by
  by_cases hbig : 1048576 < n
  · go_enter Tryd.func14, Tryd.ntmps14
    go_wp2_with fail
    go_ret
    exact ⟨rfl, (by repeat (first | with_reducible assumption | exact Below.refl _ _ | refine below_drewN ?_ _ | refine Below.drew ?_ | refine Below.alloc ?_ (by first | omega | (simp; done) | (simp; omega)) _ | refine Below.setCell ?_ (by first | omega | (simp; done) | (simp; omega)) _))⟩
  replace hb := hb (by omega)
  go_enter Tryd.func14, Tryd.ntmps14
  go_wp2_with fail
  refine (drawReadDeed_any a n c w hc (by omega) hb).mono ?_
  rintro e w1 ⟨u, rfl, hu, bt⟩
  have lb := hpw.below bt
  clear hb hpw hn hc hbig
  obtain ⟨⟨⟨kd, ix, ⟨g1, g2, g3, g4, g5⟩⟩, ok⟩, hp⟩ : ∃ p, rdDdD u = p := ⟨_, rfl⟩
  have KI := Lib.hid (show ∀ (w' : World), Lby w' → Calls Tryd.prog 51 #[.string u] w' (DdRet (⟨kd, ix, ⟨g1, g2, g3, g4, g5⟩⟩, ok) w') from fun w' h => by
    have := readDeed_any u w' (by omega) h
    rw [hp] at this
    exact this)
  have KS := Lib.hid (show ∀ (w' : World), Calls Tryd.prog 55 #[.string u] w' (DdRet (⟨kd, ix, ⟨g1, g2, g3, g4, g5⟩⟩, ok) w') from fun w' => by
    have := sreadDeed_any u w' (by omega)
    rw [hp] at this
    exact this)
  have HP := Lib.hid hp
  clear hp
  go_wp2_with fail
  refine (KI.out _ lb).mono ?_
  rintro e w2 ⟨rfl, c⟩
  simp only
  replace lb := lb.below c
  replace bt := bt.trans (c.mono bt.size)
  clear c
  go_upto_region 5 with fail
  obtain ⟨BD0, hY⟩ : ∃ Y, w2.heap.size = Y := ⟨_, rfl⟩
  obtain ⟨w3, hV⟩ : ∃ V, V = w2.alloc (.cells #[.int .i64 kd, .int .i64 ix, .int .i64 g1, .int .i64 g2, .int .i64 g3, .int .i64 g4, .int .i64 g5] 29) := ⟨_, rfl⟩
  have c : Below w2.heap.size w2 w3 := by rw [hV]; exact (by repeat (first | with_reducible assumption | exact Below.refl _ _ | refine below_drewN ?_ _ | refine Below.drew ?_ | refine Below.alloc ?_ (by first | omega | (simp; done) | (simp; omega)) _ | refine Below.setCell ?_ (by first | omega | (simp; done) | (simp; omega)) _))
  have D0 : At w3 BD0 [.int .i64 kd, .int .i64 ix, .int .i64 g1, .int .i64 g2, .int .i64 g3, .int .i64 g4, .int .i64 g5] := by rw [hV]; exact At.new _ _ _ hY.symm rfl
  rw [hY, ← hV]
  clear hV hY
  replace lb := lb.below c
  replace bt := bt.trans (c.mono bt.size)
  clear c
  go_wp2_with fail
  refine (KS.out _).mono ?_
  rintro e w4 ⟨rfl, c⟩
  simp only
  replace lb := lb.below c
  replace D0 := D0.below c
  replace bt := bt.trans (c.mono bt.size)
  clear c
  go_upto_region 6 with fail
  obtain ⟨BX0, hY⟩ : ∃ Y, w4.heap.size = Y := ⟨_, rfl⟩
  obtain ⟨w5, hV⟩ : ∃ V, V = w4.alloc (.cells #[.int .i64 kd, .int .i64 ix, .int .i64 g1, .int .i64 g2, .int .i64 g3, .int .i64 g4, .int .i64 g5] 29) := ⟨_, rfl⟩
  have c : Below w4.heap.size w4 w5 := by rw [hV]; exact (by repeat (first | with_reducible assumption | exact Below.refl _ _ | refine below_drewN ?_ _ | refine Below.drew ?_ | refine Below.alloc ?_ (by first | omega | (simp; done) | (simp; omega)) _ | refine Below.setCell ?_ (by first | omega | (simp; done) | (simp; omega)) _))
  have X0 : At w5 BX0 [.int .i64 kd, .int .i64 ix, .int .i64 g1, .int .i64 g2, .int .i64 g3, .int .i64 g4, .int .i64 g5] := by rw [hV]; exact At.new _ _ _ hY.symm rfl
  rw [hY, ← hV]
  clear hV hY
  replace lb := lb.below c
  replace D0 := D0.below c
  replace bt := bt.trans (c.mono bt.size)
  clear c
  have hok : (ok != ok) = false := by simp
  have hE := run_ddNe kd ix g1 g2 g3 g4 g5 kd ix g1 g2 g3 g4 g5
  rw [ddEq_eq] at hE
  cases ok with
  | false =>
    have hN := rdDdD_no_zero HP.out
    simp only [noDd, noLeg, Dd.mk.injEq, Lg.mk.injEq] at hN
    obtain ⟨rfl, rfl, rfl, rfl, rfl, rfl, rfl⟩ := hN
    have hF := run_ddEq 0 0 0 0 0 0 0 0 0 0 0 0 0 0
    rw [ddEq_eq] at hF
    obtain ⟨tD00, tD01, tD02, tD03, tD04, tD05, tD06, tD07, tD08⟩ := id D0.facts7
    obtain ⟨tX00, tX01, tX02, tX03, tX04, tX05, tX06, tX07, tX08⟩ := id X0.facts7
    go_wp2_with fail
    refine (alive_any _ lb.pow).mono ?_
    rintro e w6 ⟨rfl, c⟩
    clear tD00 tD01 tD02 tD03 tD04 tD05 tD06 tD07 tD08 tX00 tX01 tX02 tX03 tX04 tX05 tX06 tX07 tX08
    replace lb := lb.below c
    replace D0 := D0.below c
    replace X0 := X0.below c
    replace bt := bt.trans (c.mono bt.size)
    clear c
    go_wp2_with fail
    go_ret
    exact ⟨rfl, bt⟩
  | true =>
    obtain ⟨hv, ht⟩ := rdDdD_yes_iff HP.out
    have hm := rdDdD_space HP.out
    have KM := Lib.hid (show ∀ (w' : World), Lby w' → Calls Tryd.prog 51 #[.string (u ++ ⟨#[32]⟩)] w' (DdRet (noDd, false) w') from fun w' h => by
      have := readDeed_any (u ++ ⟨#[32]⟩) w' (by rw [ByteArray.size_append]; show u.size + 1 ≤ _; omega) h
      rw [hm] at this
      exact this)
    have KT := Lib.hid (show ∀ (w' : World), Pow w' → Calls Tryd.prog 49 #[.agg #[.int .i64 kd, .int .i64 ix, .int .i64 g1, .int .i64 g2, .int .i64 g3, .int .i64 g4, .int .i64 g5]] w' (fun e w'' => e = .returned (.string u) ∧ Below w'.heap.size w' w'') from fun w' h => by
      have := deedText_any ⟨kd, ix, ⟨g1, g2, g3, g4, g5⟩⟩ w' h
      rw [ht] at this
      exact this)
    clear hm hv ht HP KI KS
    have hsz : ¬ 9223372036854775807 < u.size + 1 := by omega
    obtain ⟨tD00, tD01, tD02, tD03, tD04, tD05, tD06, tD07, tD08⟩ := id D0.facts7
    obtain ⟨tX00, tX01, tX02, tX03, tX04, tX05, tX06, tX07, tX08⟩ := id X0.facts7
    go_wp2_with fail
    refine (KM.out _ lb).mono ?_
    rintro e w7 ⟨rfl, c⟩
    clear tD00 tD01 tD02 tD03 tD04 tD05 tD06 tD07 tD08 tX00 tX01 tX02 tX03 tX04 tX05 tX06 tX07 tX08
    simp only [noDd, noLeg]
    replace lb := lb.below c
    replace D0 := D0.below c
    replace X0 := X0.below c
    replace bt := bt.trans (c.mono bt.size)
    clear c
    clear hE
    go_upto_region 11 with fail
    obtain ⟨BM0, hY⟩ : ∃ Y, w7.heap.size = Y := ⟨_, rfl⟩
    obtain ⟨w8, hV⟩ : ∃ V, V = w7.alloc (.cells #[.int .i64 0, .int .i64 0, .int .i64 0, .int .i64 0, .int .i64 0, .int .i64 0, .int .i64 0] 29) := ⟨_, rfl⟩
    have c : Below w7.heap.size w7 w8 := by rw [hV]; exact (by repeat (first | with_reducible assumption | exact Below.refl _ _ | refine below_drewN ?_ _ | refine Below.drew ?_ | refine Below.alloc ?_ (by first | omega | (simp; done) | (simp; omega)) _ | refine Below.setCell ?_ (by first | omega | (simp; done) | (simp; omega)) _))
    have M0 : At w8 BM0 [.int .i64 0, .int .i64 0, .int .i64 0, .int .i64 0, .int .i64 0, .int .i64 0, .int .i64 0] := by rw [hV]; exact At.new _ _ _ hY.symm rfl
    rw [hY, ← hV]
    clear hV hY
    replace lb := lb.below c
    replace D0 := D0.below c
    replace X0 := X0.below c
    replace bt := bt.trans (c.mono bt.size)
    clear c
    obtain ⟨tD00, tD01, tD02, tD03, tD04, tD05, tD06, tD07, tD08⟩ := id D0.facts7
    go_wp2_with fail
    refine (KT.out _ lb.pow).mono ?_
    rintro e w9 ⟨rfl, c⟩
    clear tD00 tD01 tD02 tD03 tD04 tD05 tD06 tD07 tD08
    replace lb := lb.below c
    replace D0 := D0.below c
    replace X0 := X0.below c
    replace M0 := M0.below c
    replace bt := bt.trans (c.mono bt.size)
    clear c
    go_wp2_with fail
    go_ret
    exact ⟨rfl, bt⟩
end Go.Proofs.YtdgnndlhnblenaaDoor
