/- The law FnExactReadSurvey, walked: for every text it returns true, and leaves memory as it was. -/
import Derived.Test.YtmckkhncbocfhaaDoorT6
import Derived.Test.YtmckkhncbocfhaaDoorK3
set_option linter.unusedSimpArgs false
set_option linter.unusedVariables false
namespace Go.Proofs.YtmckkhncbocfhaaDoor
open Go Go.RowKit Go.Sort

theorem rdSvD_len (s : ByteArray) : (rdSvD s).1.legs.length ≤ 9 := by
  unfold rdSvD
  cases h : rdSv s with
  | none => simp [zeroSv]
  | some x => exact (svOk_iff.1 (rdSv_iff.1 h).1).2.2.1

set_option maxRecDepth 100000 in
set_option maxHeartbeats 2000000 in
theorem exactReadSurvey (s : ByteArray) (w : World) (hs : s.size ≤ 9223372036854775807) (hw : Lby w) :
    Calls Tryd.prog 4 #[.string s] w fun e w' => e = .returned (.bool true) ∧ Below w.heap.size w w' := by
  by_cases hb : 1048576 < s.size
  · have hb2 : (1048576 : Int) < s.size := by omega
    go_enter Tryd.func4, Tryd.ntmps4
    go_wp2_with fail
    go_ret
    exact ⟨rfl, (by repeat (first | with_reducible assumption | exact Below.refl _ _ | refine below_drewN ?_ _ | refine Below.drew ?_ | refine Below.alloc ?_ (by first | omega | (simp; done) | (simp; omega)) _ | refine Below.setCell ?_ (by first | omega | (simp; done) | (simp; omega)) _))⟩
  have hb2 : ¬ (1048576 : Int) < s.size := by omega
  have i1 := fun w => sreadSurvey_any s w (by omega)
  have i2 := fun w hw => readSurvey_any s w (by omega) hw
  have hrl := rdSvD_len s
  obtain ⟨pr, hpr⟩ : ∃ pr, rdSvD s = pr := ⟨_, rfl⟩
  rw [hpr] at i1 i2 hrl
  clear hpr
  obtain ⟨⟨rst, rl⟩, ok⟩ := pr
  simp only at hrl
  have hok : (ok != ok) = false := by simp
  go_enter Tryd.func4, Tryd.ntmps4
  go_wp2_with fail
  refine (i1 _).mono ?_
  rintro e w1 ⟨vw, rfl, ow, b0⟩
  obtain ⟨aw, cw, rfl⟩ := ow.sl
  simp only at ow ⊢
  go_wp2_with fail
  obtain ⟨Bw, hBw⟩ : ∃ Y, w1.heap.size = Y := ⟨_, rfl⟩
  obtain ⟨w2, hW⟩ : ∃ V, V = w1.alloc (.cells #[.int .i64 rst, .slice aw rl.length cw] 32) := ⟨_, rfl⟩
  have c : Below w1.heap.size w1 w2 := by rw [hW]; exact (by repeat (first | with_reducible assumption | exact Below.refl _ _ | refine below_drewN ?_ _ | refine Below.drew ?_ | refine Below.alloc ?_ (by first | omega | (simp; done) | (simp; omega)) _ | refine Below.setCell ?_ (by first | omega | (simp; done) | (simp; omega)) _))
  have Aw : At w2 Bw [.int .i64 rst, .slice aw rl.length cw] := by rw [hW]; exact At.new _ _ _ hBw.symm rfl
  rw [hBw, ← hW]
  replace ow := ow.below c
  replace b0 := b0.trans (c.mono b0.size)
  clear c hW hBw
  refine (i2 _ (hw.below b0)).mono ?_
  rintro e w3 ⟨vg, rfl, og, c⟩
  obtain ⟨ag, cg, rfl⟩ := og.sl
  simp only at og ⊢
  obtain ⟨Eg, hEg⟩ : ∃ E, E = w2.heap.size := ⟨_, rfl⟩
  have uwg : ∀ k, (Value.slice aw rl.length cw).ownBlock = some k → k < Eg := fun k hk => by rw [hEg]; exact (ow.lt hk).2
  have vwg : Bw < Eg := by rw [hEg]; exact Aw.lt
  have ubg : w.heap.size ≤ Eg := by rw [hEg]; exact b0.size
  rw [← hEg] at og
  replace Aw := Aw.below c
  replace ow := ow.below c
  replace b0 := b0.trans (c.mono b0.size)
  clear c hEg
  obtain ⟨f0, f1, f2, -⟩ := id Aw.facts2
  have neg : ∀ k, (Value.slice ag rl.length cg).ownBlock = some k → k ≠ w3.heap.size := fun k hk => by have := (og.lt hk).2; omega
  go_wp2_with fail
  obtain ⟨Bg, hBg⟩ : ∃ Y, w3.heap.size = Y := ⟨_, rfl⟩
  obtain ⟨w4, hV⟩ : ∃ V, V = w3.alloc (.cells #[.int .i64 rst, .slice ag rl.length cg] 32) := ⟨_, rfl⟩
  have c : Below w3.heap.size w3 w4 := by rw [hV]; exact (by repeat (first | with_reducible assumption | exact Below.refl _ _ | refine below_drewN ?_ _ | refine Below.drew ?_ | refine Below.alloc ?_ (by first | omega | (simp; done) | (simp; omega)) _ | refine Below.setCell ?_ (by first | omega | (simp; done) | (simp; omega)) _))
  have Ag : At w4 Bg [.int .i64 rst, .slice ag rl.length cg] := by rw [hV]; exact At.new _ _ _ hBg.symm rfl
  rw [hBg] at neg
  rw [hBg, ← hV]
  clear hV hBg f0 f1 f2
  replace Aw := Aw.below c
  replace ow := ow.below c
  replace og := og.below c
  replace b0 := b0.trans (c.mono b0.size)
  clear c
  refine (eqSurvey_any _ _ _ _ rst rl _ (by omega) og.kr ow.kr).mono ?_
  rintro e w5 ⟨rfl, c⟩
  replace Aw := Aw.below c
  replace ow := ow.below c
  replace Ag := Ag.below c
  replace og := og.below c
  replace b0 := b0.trans (c.mono b0.size)
  clear c
  obtain ⟨t0, t1, t2, -⟩ := id Ag.facts2
  go_wp2_with fail
  refine (markSurveyW_any Eg _ _ rst rl (1) _ (by omega) (by omega) (by omega) og).mono ?_
  rintro e w6 ⟨rfl, om, hw6⟩
  clear t0 t1 t2
  replace Aw := Aw.block (hw6.block _ Aw.lt fun hj => by have := (og.lt hj).1; omega)
  replace ow := ow.wr hw6 (fun j hj h => by have := (og.lt h).1; have := uwg j hj; omega)
  replace Ag := Ag.block (hw6.block _ Ag.lt fun hj => by exact neg _ hj rfl)
  replace b0 := b0.trans (hw6.below (B := w.heap.size) b0.size fun j hj => by have := (og.lt hj).1; omega)
  replace og := om
  clear hw6 om
  have hm1 : 0 ≤ 1 + 5 * (rl.length : Int) := by omega
  have hm2 : ((1 + 5 * (rl.length : Int) : Int) != (1 + 5 * (rl.length : Int) : Int)) = false := by simp
  obtain ⟨t0, t1, t2, -⟩ := id Ag.facts2
  go_wp2_with fail
  refine (heldSurvey_any _ _ _ rst 1 _ (by omega) (by omega) (by omega) og.kr).mono ?_
  rintro e w7 ⟨rfl, c⟩
  clear t0 t1 t2
  replace Aw := Aw.below c
  replace ow := ow.below c
  replace Ag := Ag.below c
  replace og := og.below c
  replace b0 := b0.trans (c.mono b0.size)
  clear c
  go_wp2_with fail
  refine (i2 _ (hw.below b0)).mono ?_
  rintro e w8 ⟨vh, rfl, oh, c⟩
  obtain ⟨ah, ch, rfl⟩ := oh.sl
  simp only at oh ⊢
  replace Aw := Aw.below c
  replace ow := ow.below c
  replace Ag := Ag.below c
  replace og := og.below c
  replace b0 := b0.trans (c.mono b0.size)
  clear c
  obtain ⟨f0, f1, f2, -⟩ := id Aw.facts2
  go_wp2_with fail
  replace Aw := Aw.alloc (.cells #[.int .i64 rst, .slice ah rl.length ch] 32)
  replace ow := ow.alloc (.cells #[.int .i64 rst, .slice ah rl.length ch] 32)
  replace Ag := Ag.alloc (.cells #[.int .i64 rst, .slice ah rl.length ch] 32)
  replace og := og.alloc (.cells #[.int .i64 rst, .slice ah rl.length ch] 32)
  replace oh := oh.alloc (.cells #[.int .i64 rst, .slice ah rl.length ch] 32)
  replace b0 := b0.alloc b0.size (.cells #[.int .i64 rst, .slice ah rl.length ch] 32)
  clear f0 f1 f2
  refine (eqSurvey_any _ _ _ _ rst rl _ (by omega) oh.kr ow.kr).mono ?_
  rintro e w9 ⟨rfl, c⟩
  replace Ag := Ag.below c
  replace og := og.below c
  replace b0 := b0.trans (c.mono b0.size)
  clear c
  obtain ⟨t0, t1, t2, -⟩ := id Ag.facts2
  go_wp2_with fail
  refine (heldSurvey_any _ _ _ rst 1 _ (by omega) (by omega) (by omega) og.kr).mono ?_
  rintro e w10 ⟨rfl, c⟩
  replace b0 := b0.trans (c.mono b0.size)
  clear c t0 t1 t2
  go_wp2_with fail
  go_ret
  exact ⟨rfl, b0⟩
end Go.Proofs.YtmckkhncbocfhaaDoor
