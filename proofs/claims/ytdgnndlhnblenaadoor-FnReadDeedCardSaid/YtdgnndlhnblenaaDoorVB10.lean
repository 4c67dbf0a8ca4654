/- The law FnDeedText, walked: texts of deeds are read (written by wip/bin/gen_vb10.py). -/
import Derived.Test.YtdgnndlhnblenaaDoorR6
import Derived.Test.YtdgnndlhnblenaaDoorT1
import Derived.Test.YtdgnndlhnblenaaDoorT6
import Derived.Test.YtdgnndlhnblenaaDoorT2
set_option linter.unusedSimpArgs false
set_option linter.unusedVariables false
namespace Go.Proofs.YtdgnndlhnblenaaDoor
open Go Go.RowKit Go.Sort

theorem ddEq_eq (k i a b c d e : Int) : ddEq k i a b c d e k i a b c d e = true := by simp [ddEq, legEq]
theorem size0_eq {t : ByteArray} (h : t.size = 0) : t = ⟨#[]⟩ := by
  obtain ⟨l⟩ := t
  exact congrArg _ (Array.eq_empty_of_size_eq_zero h)
theorem toList_ne {t : ByteArray} (h : t.size ≠ 0) : t.toList.isEmpty = false := by
  have h2 : t.toList ≠ [] := fun e => h (by
    have : t.size = t.data.toList.length := rfl
    rw [this, ← Lib.toList_data, e]; rfl)
  cases e : t.toList with
  | nil => exact absurd e h2
  | cons _ _ => rfl
set_option maxRecDepth 100000 in
set_option maxHeartbeats 4000000 in
theorem lawDeedText (a : Option Addr) (n c : Nat) (w : World) (hc : n ≤ c) (hn : n ≤ 9223372036854775807) (hb : n ≤ 1048576 → Bytes w a n) (hpw : Lby w) :
    Calls Tryd.prog 12 #[.slice a n c] w fun e w' => e = .returned (.bool true) ∧ Below w.heap.size w w' := by
  by_cases hbig : 1048576 < n
  · go_enter Tryd.func12, Tryd.ntmps12
    go_wp2_with fail
    go_ret
    exact ⟨rfl, (by repeat (first | with_reducible assumption | exact Below.refl _ _ | refine below_drewN ?_ _ | refine Below.drew ?_ | refine Below.alloc ?_ (by first | omega | (simp; done) | (simp; omega)) _ | refine Below.setCell ?_ (by first | omega | (simp; done) | (simp; omega)) _))⟩
  replace hb := hb (by omega)
  go_enter Tryd.func12, Tryd.ntmps12
  go_wp2_with fail
  refine (drawDeedText_any a n c w hc (by omega) hb).mono ?_
  rintro e w1 ⟨⟨kd, ix, ⟨g1, g2, g3, g4, g5⟩⟩, rfl, bt⟩
  have lb := hpw.below bt
  clear hb hpw hn hc hbig
  simp only
  obtain ⟨t, ht⟩ : ∃ t, deedB ⟨kd, ix, ⟨g1, g2, g3, g4, g5⟩⟩ = t := ⟨_, rfl⟩
  have KT := Lib.hid (show ∀ (w' : World), Pow w' → Calls Tryd.prog 49 #[.agg #[.int .i64 kd, .int .i64 ix, .int .i64 g1, .int .i64 g2, .int .i64 g3, .int .i64 g4, .int .i64 g5]] w' (fun e w'' => e = .returned (.string t) ∧ Below w'.heap.size w' w'') from fun w' h => by
    have := deedText_any ⟨kd, ix, ⟨g1, g2, g3, g4, g5⟩⟩ w' h
    rw [ht] at this
    exact this)
  have KU := Lib.hid (show ∀ (w' : World), Calls Tryd.prog 50 #[.agg #[.int .i64 kd, .int .i64 ix, .int .i64 g1, .int .i64 g2, .int .i64 g3, .int .i64 g4, .int .i64 g5]] w' (fun e w'' => e = .returned (.string t) ∧ Below w'.heap.size w' w'') from fun w' => by
    have := sdeedText_any ⟨kd, ix, ⟨g1, g2, g3, g4, g5⟩⟩ w'
    rw [ht] at this
    exact this)
  have HT := Lib.hid ht
  clear ht
  go_upto_region 4 with fail
  obtain ⟨BD0, hY⟩ : ∃ Y, w1.heap.size = Y := ⟨_, rfl⟩
  obtain ⟨w2, hV⟩ : ∃ V, V = w1.alloc (.cells #[.int .i64 kd, .int .i64 ix, .int .i64 g1, .int .i64 g2, .int .i64 g3, .int .i64 g4, .int .i64 g5] 29) := ⟨_, rfl⟩
  have c : Below w1.heap.size w1 w2 := by rw [hV]; exact (by repeat (first | with_reducible assumption | exact Below.refl _ _ | refine below_drewN ?_ _ | refine Below.drew ?_ | refine Below.alloc ?_ (by first | omega | (simp; done) | (simp; omega)) _ | refine Below.setCell ?_ (by first | omega | (simp; done) | (simp; omega)) _))
  have D0 : At w2 BD0 [.int .i64 kd, .int .i64 ix, .int .i64 g1, .int .i64 g2, .int .i64 g3, .int .i64 g4, .int .i64 g5] := by rw [hV]; exact At.new _ _ _ hY.symm rfl
  rw [hY, ← hV]
  clear hV hY
  replace lb := lb.below c
  replace bt := bt.trans (c.mono bt.size)
  clear c
  obtain ⟨tD00, tD01, tD02, tD03, tD04, tD05, tD06, tD07, tD08⟩ := id D0.facts7
  go_wp2_with fail
  refine (KT.out _ lb.pow).mono ?_
  rintro e w3 ⟨rfl, c⟩
  clear tD00 tD01 tD02 tD03 tD04 tD05 tD06 tD07 tD08
  replace lb := lb.below c
  replace D0 := D0.below c
  replace bt := bt.trans (c.mono bt.size)
  clear c
  obtain ⟨tD00, tD01, tD02, tD03, tD04, tD05, tD06, tD07, tD08⟩ := id D0.facts7
  go_wp2_with fail
  refine (KU.out _).mono ?_
  rintro e w4 ⟨rfl, c⟩
  clear tD00 tD01 tD02 tD03 tD04 tD05 tD06 tD07 tD08
  replace lb := lb.below c
  replace D0 := D0.below c
  replace bt := bt.trans (c.mono bt.size)
  clear c
  by_cases hz : t.size = 0
  · have he : t = ⟨#[]⟩ := size0_eq hz
    subst he
    go_wp2_with fail
    refine (alive_any _ lb.pow).mono ?_
    rintro e w5 ⟨rfl, c⟩
    replace lb := lb.below c
    replace D0 := D0.below c
    replace bt := bt.trans (c.mono bt.size)
    clear c
    go_wp2_with fail
    go_ret
    exact ⟨rfl, bt⟩
  · have hne := toList_ne hz
    have hin : ddIn ⟨kd, ix, ⟨g1, g2, g3, g4, g5⟩⟩ = true := deedB_size0 (by rw [HT.out]; exact hz)
    have hle : t.size ≤ 300 := by have := deedB_le ⟨kd, ix, ⟨g1, g2, g3, g4, g5⟩⟩; rw [HT.out] at this; exact this
    have hrd : rdDdD t = (⟨kd, ix, ⟨g1, g2, g3, g4, g5⟩⟩, true) := by unfold rdDdD; rw [rdDd_iff.2 ⟨hin, HT.out⟩]
    have KR := Lib.hid (show ∀ (w' : World), Lby w' → Calls Tryd.prog 51 #[.string t] w' (DdRet (⟨kd, ix, ⟨g1, g2, g3, g4, g5⟩⟩, true) w') from fun w' h => by
      have := readDeed_any t w' (by omega) h
      rw [hrd] at this
      exact this)
    clear hz hin hle hrd HT
    go_wp2_with fail
    refine (KR.out _ lb).mono ?_
    rintro e w6 ⟨rfl, c⟩
    simp only
    replace lb := lb.below c
    replace D0 := D0.below c
    replace bt := bt.trans (c.mono bt.size)
    clear c
    clear hne
    go_upto_region 10 with fail
    obtain ⟨BX0, hY⟩ : ∃ Y, w6.heap.size = Y := ⟨_, rfl⟩
    obtain ⟨w7, hV⟩ : ∃ V, V = w6.alloc (.cells #[.int .i64 kd, .int .i64 ix, .int .i64 g1, .int .i64 g2, .int .i64 g3, .int .i64 g4, .int .i64 g5] 29) := ⟨_, rfl⟩
    have c : Below w6.heap.size w6 w7 := by rw [hV]; exact (by repeat (first | with_reducible assumption | exact Below.refl _ _ | refine below_drewN ?_ _ | refine Below.drew ?_ | refine Below.alloc ?_ (by first | omega | (simp; done) | (simp; omega)) _ | refine Below.setCell ?_ (by first | omega | (simp; done) | (simp; omega)) _))
    have X0 : At w7 BX0 [.int .i64 kd, .int .i64 ix, .int .i64 g1, .int .i64 g2, .int .i64 g3, .int .i64 g4, .int .i64 g5] := by rw [hV]; exact At.new _ _ _ hY.symm rfl
    rw [hY, ← hV]
    clear hV hY
    replace lb := lb.below c
    replace D0 := D0.below c
    replace bt := bt.trans (c.mono bt.size)
    clear c
    have hG := run_ddEq kd ix g1 g2 g3 g4 g5 kd ix g1 g2 g3 g4 g5
    rw [ddEq_eq] at hG
    obtain ⟨tX00, tX01, tX02, tX03, tX04, tX05, tX06, tX07, tX08⟩ := id X0.facts7
    obtain ⟨tD00, tD01, tD02, tD03, tD04, tD05, tD06, tD07, tD08⟩ := id D0.facts7
    go_wp2_with fail
    go_ret
    exact ⟨rfl, bt⟩
end Go.Proofs.YtdgnndlhnblenaaDoor
