/- The law FnBookValid, walked: books can be undone (written by wip/bin/gen_vb6.py). -/
import Derived.Test.YtdgnndlhnblenaaDoorVB6
set_option linter.unusedSimpArgs false
set_option linter.unusedVariables false
namespace Go.Proofs.YtdgnndlhnblenaaDoor
open Go Go.RowKit Go.Sort

set_option maxRecDepth 100000 in
set_option maxHeartbeats 4000000 in
theorem lawBookValid (a : Option Addr) (n c : Nat) (w : World) (hc : n ≤ c) (hn : n ≤ 9223372036854775807) (hb : n ≤ 1048576 → Bytes w a n) (hpw : Pow w) :
    Calls Tryd.prog 6 #[.slice a n c] w fun e w' => e = .returned (.bool true) ∧ Below w.heap.size w w' := by
  by_cases hbig : 1048576 < n
  · go_enter Tryd.func6, Tryd.ntmps6
    go_wp2_with fail
    go_ret
    exact ⟨rfl, (by repeat (first | with_reducible assumption | exact Below.refl _ _ | refine below_drewN ?_ _ | refine Below.drew ?_ | refine Below.alloc ?_ (by first | omega | (simp; done) | (simp; omega)) _ | refine Below.setCell ?_ (by first | omega | (simp; done) | (simp; omega)) _))⟩
  replace hb := hb (by omega)
  go_enter Tryd.func6, Tryd.ntmps6
  go_wp2_with fail
  refine (drawBookValid_any a n c w hc (by omega) hb).mono ?_
  rintro e w1 ⟨⟨⟨st, l⟩, d, u⟩, v1, v2, v3, rfl, o, hsz, bt⟩
  have hcap0 := o.d
  obtain ⟨a1, c1, a2, c2, a3, c3, rfl, rfl, rfl⟩ := o.forms
  simp only at o hcap0 ⊢
  have hcap := hcap0.caps.1
  have pw := hpw.below bt
  have hs := o.kr
  have hl : l.length ≤ 10 := hsz.1
  have hdu : d.length + u.length ≤ 41 := hsz.2.1
  clear o hb hpw hn hc hsz hcap0
  go_upto_region 4 with fail
  obtain ⟨BB0, hY⟩ : ∃ Y, w1.heap.size = Y := ⟨_, rfl⟩
  obtain ⟨w2, hV⟩ : ∃ V, V = w1.alloc (.cells #[.int .i64 st, .slice a1 l.length c1, .slice a2 d.length c2, .slice a3 u.length c3] 46) := ⟨_, rfl⟩
  have c : Below w1.heap.size w1 w2 := by rw [hV]; exact (by repeat (first | with_reducible assumption | exact Below.refl _ _ | refine below_drewN ?_ _ | refine Below.drew ?_ | refine Below.alloc ?_ (by first | omega | (simp; done) | (simp; omega)) _ | refine Below.setCell ?_ (by first | omega | (simp; done) | (simp; omega)) _))
  have B0 : At w2 BB0 [.int .i64 st, .slice a1 l.length c1, .slice a2 d.length c2, .slice a3 u.length c3] := by rw [hV]; exact At.new _ _ _ hY.symm rfl
  rw [hY, ← hV]
  clear hV hY
  replace pw := pw.below c
  replace hs := hs.below c
  replace bt := bt.trans (c.mono bt.size)
  clear c
  obtain ⟨tB00, tB01, tB02, tB03, tB04, tB05⟩ := id B0.facts4
  go_wp2_with fail
  refine (bookValid_any a1 a2 a3 c1 c2 c3 st l d u _ (by omega) (by omega) (by omega) hs).mono ?_
  rintro e w3 ⟨rfl, c⟩
  clear tB00 tB01 tB02 tB03 tB04 tB05
  replace pw := pw.below c
  replace hs := hs.below c
  replace B0 := B0.below c
  replace bt := bt.trans (c.mono bt.size)
  clear c
  obtain ⟨ok, hok⟩ : ∃ e, bkOk ⟨⟨st, l⟩, d, u⟩ = e := ⟨_, rfl⟩
  rw [hok]
  obtain ⟨tB00, tB01, tB02, tB03, tB04, tB05⟩ := id B0.facts4
  go_wp2_with fail
  refine (sbookValid_any a1 a2 a3 c1 c2 c3 st l d u _ (by omega) (by omega) (by omega) hs).mono ?_
  rintro e w4 ⟨rfl, c⟩
  clear tB00 tB01 tB02 tB03 tB04 tB05
  rw [hok]
  replace pw := pw.below c
  replace hs := hs.below c
  replace B0 := B0.below c
  replace bt := bt.trans (c.mono bt.size)
  clear c
  have hne : (ok != ok) = false := by simp
  cases ok with
  | false =>
    clear hok
    go_wp2_with fail
    have K0 := fun w' => bookValid_any none none none 0 0 0 0 [] [] [] w' (by simp) (by simp) (by simp) ⟨.inl rfl, .inl rfl, .inl rfl⟩
    rw [show bkOk ⟨⟨0, []⟩, [], []⟩ = false from by decide] at K0
    refine (K0 _).mono ?_
    rintro e w5 ⟨rfl, c⟩
    replace pw := pw.below c
    replace hs := hs.below c
    replace B0 := B0.below c
    replace bt := bt.trans (c.mono bt.size)
    clear c
    go_wp2_with fail
    refine (alive_any _ pw).mono ?_
    rintro e w6 ⟨rfl, c⟩
    replace pw := pw.below c
    replace hs := hs.below c
    replace B0 := B0.below c
    replace bt := bt.trans (c.mono bt.size)
    clear c
    go_wp2_with fail
    go_ret
    exact ⟨rfl, bt⟩
  | true =>
    obtain ⟨k, hk⟩ : ∃ k, d.length - 1 = k := ⟨_, rfl⟩
    have b1 := bk_short hok k
    have b2 := bk_short hok 0
    simp only [List.take_zero] at b1 b2
    have hlen : (d.take k).length = k := by simp; omega
    have KT := Lib.hid (show ∀ (w' : World), RdB w' a1 a2 a3 ⟨⟨st, l⟩, d, u⟩ → Calls Tryd.prog 29 #[.agg #[.int .i64 st, .slice a1 l.length c1, .slice a2 k c2, .slice none 0 0]] w' (fun e w'' => e = .returned (.bool true) ∧ Below w'.heap.size w' w'') from fun w' h => by
      have := bookValid_any a1 a2 none c1 c2 0 st l (d.take k) [] w' (by omega) (by omega) (by simp) ⟨h.l, h.d.take k, .inl rfl⟩
      rw [b1, hlen] at this
      exact this)
    have KF := Lib.hid (show ∀ (w' : World), RdB w' a1 a2 a3 ⟨⟨st, l⟩, d, u⟩ → Calls Tryd.prog 29 #[.agg #[.int .i64 st, .slice a1 l.length c1, .slice none 0 0, .slice none 0 0]] w' (fun e w'' => e = .returned (.bool true) ∧ Below w'.heap.size w' w'') from fun w' h => by
      have := bookValid_any a1 none none c1 0 0 st l [] [] w' (by omega) (by simp) (by simp) (nilB h.l)
      rw [b2] at this
      exact this)
    have hmax : max ((d.length : Int) - 1) 0 = (k : Int) := by omega
    have hw : IntKind.i64.wrap ((d.length : Int) - 1) = (d.length : Int) - 1 := IntWalk.i64_in _ (by omega)
    have hk1 : k ≤ c2 := by omega
    have hk2 : (k : Int) ≤ (c2 : Int) := by omega
    have hk3 : (0 : Int) ≤ (k : Int) := by omega
    clear hok b1 b2 hlen hk hcap
    go_upto_region 9 with fail
    obtain ⟨tB00, tB01, tB02, tB03, tB04, tB05⟩ := id B0.facts4
    go_region_held3 (fun w' => Below w4.heap.size w4 w' ∧ ∀ b o, b < w4.heap.size → w'.cell? ⟨b, o, none⟩ = w4.cell? ⟨b, o, none⟩) (exact kept (by repeat (first | with_reducible assumption | with_reducible exact Below.refl _ _ | with_reducible refine Below.setCell ?_ (by first | omega | (simp; done) | (simp; omega)) _ | with_reducible refine Below.alloc ?_ (by first | omega | (simp; done) | (simp; omega)) _ | with_reducible refine Below.drew ?_)))
      (first
      | (have _t := yT; clear _t; go_at_call 29; refine (KF.out _ (hs.below (by repeat (first | with_reducible assumption | with_reducible exact Below.refl _ _ | with_reducible refine Below.setCell ?_ (by first | omega | (simp; done) | (simp; omega)) _ | with_reducible refine Below.alloc ?_ (by first | omega | (simp; done) | (simp; omega)) _ | with_reducible refine Below.drew ?_)))).mono ?_; rintro e wz ⟨rfl, cc⟩; have Bz := kept_next (V := w4) (by repeat (first | with_reducible assumption | with_reducible exact Below.refl _ _ | with_reducible refine Below.setCell ?_ (by first | omega | (simp; done) | (simp; omega)) _ | with_reducible refine Below.alloc ?_ (by first | omega | (simp; done) | (simp; omega)) _ | with_reducible refine Below.drew ?_)) cc; have zz := Bz.size; (first | have hA0 := A0.lt | skip); (first | have A0 := A0.below cc | have A0 := A0.drew.below cc | have A0 := At.born cc | have A0 := At.bornD cc | skip); clear cc)
      | (go_at_call 29; refine (KT.out _ (hs.below (by repeat (first | with_reducible assumption | with_reducible exact Below.refl _ _ | with_reducible refine Below.setCell ?_ (by first | omega | (simp; done) | (simp; omega)) _ | with_reducible refine Below.alloc ?_ (by first | omega | (simp; done) | (simp; omega)) _ | with_reducible refine Below.drew ?_)))).mono ?_; rintro e wy ⟨rfl, cc⟩; have yT : True := trivial; have By := kept_next (V := w4) (by repeat (first | with_reducible assumption | with_reducible exact Below.refl _ _ | with_reducible refine Below.setCell ?_ (by first | omega | (simp; done) | (simp; omega)) _ | with_reducible refine Below.alloc ?_ (by first | omega | (simp; done) | (simp; omega)) _ | with_reducible refine Below.drew ?_)) cc; have zy := By.size; (first | have hA0 := A0.lt | skip); (first | have A0 := A0.below cc | have A0 := A0.drew.below cc | have A0 := At.born cc | have A0 := At.bornD cc | skip); clear cc))
    all_goals (go_wp2_with fail; go_ret)
    all_goals exact ⟨rfl, bt.trans (Below.mono (by repeat (first | with_reducible assumption | with_reducible exact Below.refl _ _ | with_reducible refine Below.setCell ?_ (by first | omega | (simp; done) | (simp; omega)) _ | with_reducible refine Below.alloc ?_ (by first | omega | (simp; done) | (simp; omega)) _ | with_reducible refine Below.drew ?_)) bt.size)⟩
end Go.Proofs.YtdgnndlhnblenaaDoor
