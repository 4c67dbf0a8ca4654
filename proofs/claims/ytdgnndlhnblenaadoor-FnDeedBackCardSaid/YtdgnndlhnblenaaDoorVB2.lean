/- The law FnDeedBack, walked: undoing is undone by the deed (written by wip/bin/gen_vb2.py). -/
import Derived.Test.YtdgnndlhnblenaaDoorVB1
set_option linter.unusedSimpArgs false
set_option linter.unusedVariables false
namespace Go.Proofs.YtdgnndlhnblenaaDoor
open Go Go.RowKit Go.Sort

theorem ddEq_self (k i a b c d e : Int) : ddEq k i a b c d e k i a b c d e = true := by simp [ddEq, legEq]
theorem ddBackF {s : Sv} {d e : Dd} (h : ddBack s d = (e, false)) : e = noDd := by
  unfold ddBack at h
  split at h
  · cases h
  · exact (congrArg Prod.fst h).symm
theorem ddBackT {s : Sv} {d e : Dd} (h : ddBack s d = (e, true)) : (ddDo s d).2 = true := by
  unfold ddBack at h
  split at h
  · assumption
  · cases h

set_option maxRecDepth 100000 in
set_option maxHeartbeats 4000000 in
theorem lawDeedBack (a : Option Addr) (n c : Nat) (w : World) (hc : n ≤ c) (hn : n ≤ 9223372036854775807) (hb : n ≤ 1048576 → Bytes w a n) (hpw : Pow w) :
    Calls Tryd.prog 4 #[.slice a n c] w fun e w' => e = .returned (.bool true) ∧ Below w.heap.size w w' := by
  by_cases hbig : 1048576 < n
  · go_enter Tryd.func4, Tryd.ntmps4
    go_wp2_with fail
    go_ret
    exact ⟨rfl, (by repeat (first | with_reducible assumption | exact Below.refl _ _ | refine below_drewN ?_ _ | refine Below.drew ?_ | refine Below.alloc ?_ (by first | omega | (simp; done) | (simp; omega)) _ | refine Below.setCell ?_ (by first | omega | (simp; done) | (simp; omega)) _))⟩
  replace hb := hb (by omega)
  go_enter Tryd.func4, Tryd.ntmps4
  go_wp2_with fail
  refine (drawDeedBack_any a n c w hc (by omega) hb).mono ?_
  rintro e w1 ⟨⟨st, l⟩, v, ⟨kd, ix, ⟨g1, g2, g3, g4, g5⟩⟩, rfl, o, hl, hst, bt⟩
  obtain ⟨av, cv, rfl⟩ := o.sl
  simp only at o hl hst ⊢
  have pw := hpw.below bt
  have hcap := o.caps
  have hs := o.kr
  clear o hb hpw hn hc
  obtain ⟨⟨⟨zk, zi, ⟨z1, z2, z3, z4, z5⟩⟩, can⟩, hq⟩ : ∃ p, ddBack ⟨st, l⟩ ⟨kd, ix, ⟨g1, g2, g3, g4, g5⟩⟩ = p := ⟨_, rfl⟩
  have KI := Lib.hid (show ∀ (w' : World), Legs w' av l → Calls Tryd.prog 21 #[.agg #[.int .i64 st, .slice av l.length cv], .agg #[.int .i64 kd, .int .i64 ix, .int .i64 g1, .int .i64 g2, .int .i64 g3, .int .i64 g4, .int .i64 g5]] w' (DdOut (⟨zk, zi, ⟨z1, z2, z3, z4, z5⟩⟩, can) w') from fun w' h => by
    have := deedBack_any av cv st l ⟨kd, ix, ⟨g1, g2, g3, g4, g5⟩⟩ w' (by omega) h
    rw [hq] at this
    exact this)
  have KS := Lib.hid (show ∀ (w' : World), Legs w' av l → Calls Tryd.prog 23 #[.agg #[.int .i64 st, .slice av l.length cv], .agg #[.int .i64 kd, .int .i64 ix, .int .i64 g1, .int .i64 g2, .int .i64 g3, .int .i64 g4, .int .i64 g5]] w' (DdOut (⟨zk, zi, ⟨z1, z2, z3, z4, z5⟩⟩, can) w') from fun w' h => by
    have := sdeedBack_any av cv st l ⟨kd, ix, ⟨g1, g2, g3, g4, g5⟩⟩ w' (by omega) hcap.1 hcap.2.1 hcap.2.2 h
    rw [hq] at this
    exact this)
  have HQ := Lib.hid hq
  clear hq hcap
  go_upto_region 4 with fail
  obtain ⟨BS, hY⟩ : ∃ Y, w1.heap.size = Y := ⟨_, rfl⟩
  obtain ⟨w2, hV⟩ : ∃ V, V = (w1.alloc (.cells #[.int .i64 st, .slice av l.length cv] 25)).alloc (.cells #[.int .i64 kd, .int .i64 ix, .int .i64 g1, .int .i64 g2, .int .i64 g3, .int .i64 g4, .int .i64 g5] 29) := ⟨_, rfl⟩
  have c : Below w1.heap.size w1 w2 := by rw [hV]; exact (by repeat (first | with_reducible assumption | exact Below.refl _ _ | refine below_drewN ?_ _ | refine Below.drew ?_ | refine Below.alloc ?_ (by first | omega | (simp; done) | (simp; omega)) _ | refine Below.setCell ?_ (by first | omega | (simp; done) | (simp; omega)) _))
  have S0 : At w2 BS [.int .i64 st, .slice av l.length cv] := by rw [hV]; exact (At.new _ _ _ hY.symm rfl).alloc _
  have D0 : At w2 (BS + 1) [.int .i64 kd, .int .i64 ix, .int .i64 g1, .int .i64 g2, .int .i64 g3, .int .i64 g4, .int .i64 g5] := by rw [hV]; exact At.new _ _ _ (by simp [hY]) rfl
  rw [hY, ← hV]
  clear hV hY
  replace pw := pw.below c
  replace hs := hs.below c
  replace bt := bt.trans (c.mono bt.size)
  clear c
  obtain ⟨tS00, tS01, tS02, tS03⟩ := id S0.facts2
  obtain ⟨tD00, tD01, tD02, tD03, tD04, tD05, tD06, tD07, tD08⟩ := id D0.facts7
  go_wp2_with fail
  refine (KI.out _ hs).mono ?_
  rintro e w3 ⟨rfl, c⟩
  clear tS00 tS01 tS02 tS03 tD00 tD01 tD02 tD03 tD04 tD05 tD06 tD07 tD08
  simp only [Dd.val]
  replace pw := pw.below c
  replace hs := hs.below c
  replace S0 := S0.below c
  replace D0 := D0.below c
  replace bt := bt.trans (c.mono bt.size)
  clear c
  go_upto_region 5 with fail
  obtain ⟨BP0, hY⟩ : ∃ Y, w3.heap.size = Y := ⟨_, rfl⟩
  obtain ⟨w4, hV⟩ : ∃ V, V = w3.alloc (.cells #[.int .i64 zk, .int .i64 zi, .int .i64 z1, .int .i64 z2, .int .i64 z3, .int .i64 z4, .int .i64 z5] 29) := ⟨_, rfl⟩
  have c : Below w3.heap.size w3 w4 := by rw [hV]; exact (by repeat (first | with_reducible assumption | exact Below.refl _ _ | refine below_drewN ?_ _ | refine Below.drew ?_ | refine Below.alloc ?_ (by first | omega | (simp; done) | (simp; omega)) _ | refine Below.setCell ?_ (by first | omega | (simp; done) | (simp; omega)) _))
  have P0 : At w4 BP0 [.int .i64 zk, .int .i64 zi, .int .i64 z1, .int .i64 z2, .int .i64 z3, .int .i64 z4, .int .i64 z5] := by rw [hV]; exact At.new _ _ _ hY.symm rfl
  rw [hY, ← hV]
  clear hV hY
  replace pw := pw.below c
  replace hs := hs.below c
  replace S0 := S0.below c
  replace D0 := D0.below c
  replace bt := bt.trans (c.mono bt.size)
  clear c
  obtain ⟨tS00, tS01, tS02, tS03⟩ := id S0.facts2
  obtain ⟨tD00, tD01, tD02, tD03, tD04, tD05, tD06, tD07, tD08⟩ := id D0.facts7
  go_wp2_with fail
  refine (KS.out _ hs).mono ?_
  rintro e w5 ⟨rfl, c⟩
  clear tS00 tS01 tS02 tS03 tD00 tD01 tD02 tD03 tD04 tD05 tD06 tD07 tD08
  simp only [Dd.val]
  replace pw := pw.below c
  replace hs := hs.below c
  replace S0 := S0.below c
  replace D0 := D0.below c
  replace P0 := P0.below c
  replace bt := bt.trans (c.mono bt.size)
  clear c
  go_upto_region 6 with fail
  obtain ⟨BQ0, hY⟩ : ∃ Y, w5.heap.size = Y := ⟨_, rfl⟩
  obtain ⟨w6, hV⟩ : ∃ V, V = w5.alloc (.cells #[.int .i64 zk, .int .i64 zi, .int .i64 z1, .int .i64 z2, .int .i64 z3, .int .i64 z4, .int .i64 z5] 29) := ⟨_, rfl⟩
  have c : Below w5.heap.size w5 w6 := by rw [hV]; exact (by repeat (first | with_reducible assumption | exact Below.refl _ _ | refine below_drewN ?_ _ | refine Below.drew ?_ | refine Below.alloc ?_ (by first | omega | (simp; done) | (simp; omega)) _ | refine Below.setCell ?_ (by first | omega | (simp; done) | (simp; omega)) _))
  have Q0 : At w6 BQ0 [.int .i64 zk, .int .i64 zi, .int .i64 z1, .int .i64 z2, .int .i64 z3, .int .i64 z4, .int .i64 z5] := by rw [hV]; exact At.new _ _ _ hY.symm rfl
  rw [hY, ← hV]
  clear hV hY
  replace pw := pw.below c
  replace hs := hs.below c
  replace S0 := S0.below c
  replace D0 := D0.below c
  replace P0 := P0.below c
  replace bt := bt.trans (c.mono bt.size)
  clear c
  have hok : (can != can) = false := by simp
  have hE := run_ddNe zk zi z1 z2 z3 z4 z5 zk zi z1 z2 z3 z4 z5
  rw [ddEq_self] at hE
  cases can with
  | false =>
    have hN := ddBackF HQ.out
    simp only [noDd, noLeg, Dd.mk.injEq, Lg.mk.injEq] at hN
    obtain ⟨rfl, rfl, rfl, rfl, rfl, rfl, rfl⟩ := hN
    have hF := run_ddEq 0 0 0 0 0 0 0 0 0 0 0 0 0 0
    rw [ddEq_self] at hF
    obtain ⟨tP00, tP01, tP02, tP03, tP04, tP05, tP06, tP07, tP08⟩ := id P0.facts7
    obtain ⟨tQ00, tQ01, tQ02, tQ03, tQ04, tQ05, tQ06, tQ07, tQ08⟩ := id Q0.facts7
    go_wp2_with fail
    refine (alive_any _ pw).mono ?_
    rintro e w7 ⟨rfl, c⟩
    clear tP00 tP01 tP02 tP03 tP04 tP05 tP06 tP07 tP08 tQ00 tQ01 tQ02 tQ03 tQ04 tQ05 tQ06 tQ07 tQ08
    replace pw := pw.below c
    replace hs := hs.below c
    replace S0 := S0.below c
    replace D0 := D0.below c
    replace P0 := P0.below c
    replace Q0 := Q0.below c
    replace bt := bt.trans (c.mono bt.size)
    clear c
    go_wp2_with fail
    go_ret
    exact ⟨rfl, bt⟩
  | true =>
    have hd := ddBackT HQ.out
    obtain ⟨⟨⟨tst, tl⟩, ok⟩, hp⟩ : ∃ p, ddDo ⟨st, l⟩ ⟨kd, ix, ⟨g1, g2, g3, g4, g5⟩⟩ = p := ⟨_, rfl⟩
    have htl : tl.length ≤ 9 := by have := ddDo_len ⟨st, l⟩ ⟨kd, ix, ⟨g1, g2, g3, g4, g5⟩⟩; rw [hp] at this; exact this
    obtain ⟨-, -, -, q4⟩ := do_back hd
    rw [hp, HQ.out] at q4
    rw [hp] at hd
    simp only at q4 hd
    subst hd
    have KD := Lib.hid (show ∀ (w' : World), Legs w' av l → Calls Tryd.prog 16 #[.agg #[.int .i64 st, .slice av l.length cv], .agg #[.int .i64 kd, .int .i64 ix, .int .i64 g1, .int .i64 g2, .int .i64 g3, .int .i64 g4, .int .i64 g5]] w' (SvOut (⟨tst, tl⟩, true) w') from fun w' h => by
      have := deedDo_any av cv st l ⟨kd, ix, ⟨g1, g2, g3, g4, g5⟩⟩ w' (by omega) h
      rw [hp] at this
      exact this)
    clear HQ hp
    obtain ⟨tP00, tP01, tP02, tP03, tP04, tP05, tP06, tP07, tP08⟩ := id P0.facts7
    obtain ⟨tQ00, tQ01, tQ02, tQ03, tQ04, tQ05, tQ06, tQ07, tQ08⟩ := id Q0.facts7
    obtain ⟨tS00, tS01, tS02, tS03⟩ := id S0.facts2
    obtain ⟨tD00, tD01, tD02, tD03, tD04, tD05, tD06, tD07, tD08⟩ := id D0.facts7
    go_wp2_with fail
    refine (KD.out _ hs).mono ?_
    rintro e w8 ⟨vT, rfl, oT, c⟩
    clear tP00 tP01 tP02 tP03 tP04 tP05 tP06 tP07 tP08 tQ00 tQ01 tQ02 tQ03 tQ04 tQ05 tQ06 tQ07 tQ08 tS00 tS01 tS02 tS03 tD00 tD01 tD02 tD03 tD04 tD05 tD06 tD07 tD08
    obtain ⟨aT, cT, rfl⟩ := oT.sl
    simp only at oT ⊢
    replace pw := pw.below c
    replace hs := hs.below c
    replace S0 := S0.below c
    replace D0 := D0.below c
    replace P0 := P0.below c
    replace Q0 := Q0.below c
    replace bt := bt.trans (c.mono bt.size)
    clear c
    go_upto_region 11 with fail
    obtain ⟨BT0, hY⟩ : ∃ Y, w8.heap.size = Y := ⟨_, rfl⟩
    obtain ⟨w9, hV⟩ : ∃ V, V = w8.alloc (.cells #[.int .i64 tst, .slice aT tl.length cT] 25) := ⟨_, rfl⟩
    have c : Below w8.heap.size w8 w9 := by rw [hV]; exact (by repeat (first | with_reducible assumption | exact Below.refl _ _ | refine below_drewN ?_ _ | refine Below.drew ?_ | refine Below.alloc ?_ (by first | omega | (simp; done) | (simp; omega)) _ | refine Below.setCell ?_ (by first | omega | (simp; done) | (simp; omega)) _))
    have T0 : At w9 BT0 [.int .i64 tst, .slice aT tl.length cT] := by rw [hV]; exact At.new _ _ _ hY.symm rfl
    rw [hY, ← hV]
    clear hV hY
    replace pw := pw.below c
    replace hs := hs.below c
    replace S0 := S0.below c
    replace D0 := D0.below c
    replace P0 := P0.below c
    replace Q0 := Q0.below c
    replace oT := oT.below c
    replace bt := bt.trans (c.mono bt.size)
    clear c
    have KJ := Lib.hid (show ∀ (w' : World), Legs w' aT tl → Calls Tryd.prog 21 #[.agg #[.int .i64 tst, .slice aT tl.length cT], .agg #[.int .i64 zk, .int .i64 zi, .int .i64 z1, .int .i64 z2, .int .i64 z3, .int .i64 z4, .int .i64 z5]] w' (DdOut (⟨kd, ix, ⟨g1, g2, g3, g4, g5⟩⟩, true) w') from fun w' h => by
      have := deedBack_any aT cT tst tl ⟨zk, zi, ⟨z1, z2, z3, z4, z5⟩⟩ w' (by omega) h
      rw [q4] at this
      exact this)
    clear q4
    obtain ⟨tT00, tT01, tT02, tT03⟩ := id T0.facts2
    obtain ⟨tP00, tP01, tP02, tP03, tP04, tP05, tP06, tP07, tP08⟩ := id P0.facts7
    go_wp2_with fail
    refine (KJ.out _ oT.kr).mono ?_
    rintro e w10 ⟨rfl, c⟩
    clear tT00 tT01 tT02 tT03 tP00 tP01 tP02 tP03 tP04 tP05 tP06 tP07 tP08
    simp only [Dd.val]
    replace pw := pw.below c
    replace hs := hs.below c
    replace S0 := S0.below c
    replace D0 := D0.below c
    replace P0 := P0.below c
    replace Q0 := Q0.below c
    replace oT := oT.below c
    replace T0 := T0.below c
    replace bt := bt.trans (c.mono bt.size)
    clear c
    go_upto_region 12 with fail
    obtain ⟨BR0, hY⟩ : ∃ Y, w10.heap.size = Y := ⟨_, rfl⟩
    obtain ⟨w11, hV⟩ : ∃ V, V = w10.alloc (.cells #[.int .i64 kd, .int .i64 ix, .int .i64 g1, .int .i64 g2, .int .i64 g3, .int .i64 g4, .int .i64 g5] 29) := ⟨_, rfl⟩
    have c : Below w10.heap.size w10 w11 := by rw [hV]; exact (by repeat (first | with_reducible assumption | exact Below.refl _ _ | refine below_drewN ?_ _ | refine Below.drew ?_ | refine Below.alloc ?_ (by first | omega | (simp; done) | (simp; omega)) _ | refine Below.setCell ?_ (by first | omega | (simp; done) | (simp; omega)) _))
    have R0 : At w11 BR0 [.int .i64 kd, .int .i64 ix, .int .i64 g1, .int .i64 g2, .int .i64 g3, .int .i64 g4, .int .i64 g5] := by rw [hV]; exact At.new _ _ _ hY.symm rfl
    rw [hY, ← hV]
    clear hV hY
    replace pw := pw.below c
    replace hs := hs.below c
    replace S0 := S0.below c
    replace D0 := D0.below c
    replace P0 := P0.below c
    replace Q0 := Q0.below c
    replace oT := oT.below c
    replace T0 := T0.below c
    replace bt := bt.trans (c.mono bt.size)
    clear c
    have hG := run_ddEq kd ix g1 g2 g3 g4 g5 kd ix g1 g2 g3 g4 g5
    rw [ddEq_self] at hG
    obtain ⟨tR00, tR01, tR02, tR03, tR04, tR05, tR06, tR07, tR08⟩ := id R0.facts7
    obtain ⟨tD00, tD01, tD02, tD03, tD04, tD05, tD06, tD07, tD08⟩ := id D0.facts7
    go_wp2_with fail
    go_ret
    exact ⟨rfl, bt⟩
end Go.Proofs.YtdgnndlhnblenaaDoor
