/- The law FnBookNow, walked: a book tells a survey (written by wip/bin/gen_vb6.py). -/
import Derived.Test.YtdgnndlhnblenaaDoorVB3
set_option linter.unusedSimpArgs false
set_option linter.unusedVariables false
namespace Go.Proofs.YtdgnndlhnblenaaDoor
open Go Go.RowKit Go.Sort

theorem nilB {w : World} {a : Option Addr} {st : Int} {l : List Lg} (h : Legs w a l) : RdB w a none none ⟨⟨st, l⟩, [], []⟩ := ⟨h, .inl rfl, .inl rfl⟩
set_option maxRecDepth 100000 in
set_option maxHeartbeats 4000000 in
theorem lawBookNow (a : Option Addr) (n c : Nat) (w : World) (hc : n ≤ c) (hn : n ≤ 9223372036854775807) (hb : n ≤ 1048576 → Bytes w a n) (hpw : Pow w) :
    Calls Tryd.prog 7 #[.slice a n c] w fun e w' => e = .returned (.bool true) ∧ Below w.heap.size w w' := by
  by_cases hbig : 1048576 < n
  · go_enter Tryd.func7, Tryd.ntmps7
    go_wp2_with fail
    go_ret
    exact ⟨rfl, (by repeat (first | with_reducible assumption | exact Below.refl _ _ | refine below_drewN ?_ _ | refine Below.drew ?_ | refine Below.alloc ?_ (by first | omega | (simp; done) | (simp; omega)) _ | refine Below.setCell ?_ (by first | omega | (simp; done) | (simp; omega)) _))⟩
  replace hb := hb (by omega)
  go_enter Tryd.func7, Tryd.ntmps7
  go_wp2_with fail
  refine (drawBookNow_any a n c w hc (by omega) hb).mono ?_
  rintro e w1 ⟨⟨⟨st, l⟩, d, u⟩, v1, v2, v3, rfl, o, hsz, bt⟩
  obtain ⟨a1, c1, a2, c2, a3, c3, rfl, rfl, rfl⟩ := o.forms
  simp only at o ⊢
  have pw := hpw.below bt
  have hs := o.kr
  have hl : l.length ≤ 10 := hsz.1
  have hdu : d.length + u.length ≤ 41 := hsz.2.1
  clear o hb hpw hn hc hsz
  obtain ⟨⟨nst, nl⟩, hN⟩ : ∃ p, bkNow ⟨⟨st, l⟩, d, u⟩ = p := ⟨_, rfl⟩
  have hnl : nl.length ≤ 9 := by have := bkNow_len ⟨⟨st, l⟩, d, u⟩; rw [hN] at this; exact this
  have KI := Lib.hid (show ∀ (w' : World), RdB w' a1 a2 a3 ⟨⟨st, l⟩, d, u⟩ → Calls Tryd.prog 32 #[.agg #[.int .i64 st, .slice a1 l.length c1, .slice a2 d.length c2, .slice a3 u.length c3]] w' (SvRet ⟨nst, nl⟩ w') from fun w' h => by
    have := bookNow_any a1 a2 a3 c1 c2 c3 st l d u w' (by omega) (by omega) (by omega) h
    rw [hN] at this
    exact this)
  have KS := Lib.hid (show ∀ (w' : World), RdB w' a1 a2 a3 ⟨⟨st, l⟩, d, u⟩ → Calls Tryd.prog 33 #[.agg #[.int .i64 st, .slice a1 l.length c1, .slice a2 d.length c2, .slice a3 u.length c3]] w' (SvRet ⟨nst, nl⟩ w') from fun w' h => by
    have := sbookNow_any a1 a2 a3 c1 c2 c3 st l d u w' (by omega) (by omega) (by omega) h
    rw [hN] at this
    exact this)
  have HN := Lib.hid hN
  clear hN
  go_upto_region 4 with fail
  obtain ⟨BB0, hY⟩ : ∃ Y, w1.heap.size = Y := ⟨_, rfl⟩
  obtain ⟨w2, hV⟩ : ∃ V, V = w1.alloc (.cells #[.int .i64 st, .slice a1 l.length c1, .slice a2 d.length c2, .slice a3 u.length c3] 46) := ⟨_, rfl⟩
  have c : Below w1.heap.size w1 w2 := by rw [hV]; exact (by repeat (first | with_reducible assumption | exact Below.refl _ _ | refine below_drewN ?_ _ | refine Below.drew ?_ | refine Below.alloc ?_ (by first | omega | (simp; done) | (simp; omega)) _ | refine Below.setCell ?_ (by first | omega | (simp; done) | (simp; omega)) _))
  have B0 : At w2 BB0 [.int .i64 st, .slice a1 l.length c1, .slice a2 d.length c2, .slice a3 u.length c3] := by rw [hV]; exact At.new _ _ _ hY.symm rfl
  rw [hY, ← hV]
  clear hV hY
  replace pw := pw.below c
  replace hs := hs.below c
  replace bt := bt.trans (c.mono bt.size)
  clear c
  obtain ⟨tB00, tB01, tB02, tB03, tB04, tB05⟩ := id B0.facts4
  go_wp2_with fail
  refine (KI.out _ hs).mono ?_
  rintro e w3 ⟨vN, rfl, oN, c⟩
  clear tB00 tB01 tB02 tB03 tB04 tB05
  obtain ⟨aN, cN, rfl⟩ := oN.sl
  simp only at oN ⊢
  replace pw := pw.below c
  replace hs := hs.below c
  replace B0 := B0.below c
  replace bt := bt.trans (c.mono bt.size)
  clear c
  go_upto_region 5 with fail
  obtain ⟨BN0, hY⟩ : ∃ Y, w3.heap.size = Y := ⟨_, rfl⟩
  obtain ⟨w4, hV⟩ : ∃ V, V = w3.alloc (.cells #[.int .i64 nst, .slice aN nl.length cN] 25) := ⟨_, rfl⟩
  have c : Below w3.heap.size w3 w4 := by rw [hV]; exact (by repeat (first | with_reducible assumption | exact Below.refl _ _ | refine below_drewN ?_ _ | refine Below.drew ?_ | refine Below.alloc ?_ (by first | omega | (simp; done) | (simp; omega)) _ | refine Below.setCell ?_ (by first | omega | (simp; done) | (simp; omega)) _))
  have N0 : At w4 BN0 [.int .i64 nst, .slice aN nl.length cN] := by rw [hV]; exact At.new _ _ _ hY.symm rfl
  rw [hY, ← hV]
  clear hV hY
  replace pw := pw.below c
  replace hs := hs.below c
  replace B0 := B0.below c
  replace oN := oN.below c
  replace bt := bt.trans (c.mono bt.size)
  clear c
  obtain ⟨tN00, tN01, tN02, tN03⟩ := id N0.facts2
  obtain ⟨tB00, tB01, tB02, tB03, tB04, tB05⟩ := id B0.facts4
  have hn := oN.kr
  go_cut [16] (fun p wx => p = .bool false ∧ Below w4.heap.size w4 wx)
  case first =>
    go_region_held3 (fun w' => Below w4.heap.size w4 w' ∧ ∀ b o, b < w4.heap.size → w'.cell? ⟨b, o, none⟩ = w4.cell? ⟨b, o, none⟩) (exact kept (by repeat (first | with_reducible assumption | with_reducible exact Below.refl _ _ | with_reducible refine Below.setCell ?_ (by first | omega | (simp; done) | (simp; omega)) _ | with_reducible refine Below.alloc ?_ (by first | omega | (simp; done) | (simp; omega)) _ | with_reducible refine Below.drew ?_)))
      (first
      | (go_at_call 18; refine (sameSurvey_any _ _ _ _ nst nst nl nl _ (by omega) (by omega) (hn.below (by repeat (first | with_reducible assumption | with_reducible exact Below.refl _ _ | with_reducible refine Below.setCell ?_ (by first | omega | (simp; done) | (simp; omega)) _ | with_reducible refine Below.alloc ?_ (by first | omega | (simp; done) | (simp; omega)) _ | with_reducible refine Below.drew ?_))) oy.kr).mono ?_; rintro e wz ⟨rfl, cc⟩; rw [dec_yes rfl]; have Bz := kept_next (V := w4) (by repeat (first | with_reducible assumption | with_reducible exact Below.refl _ _ | with_reducible refine Below.setCell ?_ (by first | omega | (simp; done) | (simp; omega)) _ | with_reducible refine Below.alloc ?_ (by first | omega | (simp; done) | (simp; omega)) _ | with_reducible refine Below.drew ?_)) cc; have zz := Bz.size; (first | have hA0 := A0.lt | skip); (first | have A0 := A0.below cc | have A0 := A0.drew.below cc | have A0 := At.born cc | have A0 := At.bornD cc | skip); clear cc)
      | (go_at_call 33; refine (KS.out _ (hs.below (by repeat (first | with_reducible assumption | with_reducible exact Below.refl _ _ | with_reducible refine Below.setCell ?_ (by first | omega | (simp; done) | (simp; omega)) _ | with_reducible refine Below.alloc ?_ (by first | omega | (simp; done) | (simp; omega)) _ | with_reducible refine Below.drew ?_)))).mono ?_; rintro e wy ⟨vy, rfl, oy, cc⟩; obtain ⟨ay, cy, rfl⟩ := oy.sl; have By := kept_next (V := w4) (by repeat (first | with_reducible assumption | with_reducible exact Below.refl _ _ | with_reducible refine Below.setCell ?_ (by first | omega | (simp; done) | (simp; omega)) _ | with_reducible refine Below.alloc ?_ (by first | omega | (simp; done) | (simp; omega)) _ | with_reducible refine Below.drew ?_)) cc; have zy := By.size; (first | have hA0 := A0.lt | skip); (first | have A0 := A0.below cc | have A0 := A0.drew.below cc | have A0 := At.born cc | have A0 := At.bornD cc | skip); clear cc))
    all_goals (go_wp2_with fail; go_meet)
    all_goals exact ⟨rfl, (by repeat (first | with_reducible assumption | with_reducible exact Below.refl _ _ | with_reducible refine Below.setCell ?_ (by first | omega | (simp; done) | (simp; omega)) _ | with_reducible refine Below.alloc ?_ (by first | omega | (simp; done) | (simp; omega)) _ | with_reducible refine Below.drew ?_))⟩
  case rest =>
    obtain ⟨rfl, c⟩ := hcut
    clear tN00 tN01 tN02 tN03 tB00 tB01 tB02 tB03 tB04 tB05
    clear hn
    replace pw := pw.below c
    replace hs := hs.below c
    replace B0 := B0.below c
    replace oN := oN.below c
    replace N0 := N0.below c
    replace bt := bt.trans (c.mono bt.size)
    clear c
    cases hv : bkOk ⟨⟨st, l⟩, d, u⟩ with
    | false =>
      have hz : nst = 0 := by
        have := HN.out; unfold bkNow at this; rw [hv] at this; exact (congrArg Sv.st this).symm
      subst hz
      obtain ⟨tB00, tB01, tB02, tB03, tB04, tB05⟩ := id B0.facts4
      go_wp2_with fail
      refine (sbookValid_any a1 a2 a3 c1 c2 c3 st l d u _ (by omega) (by omega) (by omega) hs).mono ?_
      rintro e w5 ⟨rfl, c⟩
      clear tB00 tB01 tB02 tB03 tB04 tB05
      rw [hv]
      replace pw := pw.below c
      replace hs := hs.below c
      replace B0 := B0.below c
      replace oN := oN.below c
      replace N0 := N0.below c
      replace bt := bt.trans (c.mono bt.size)
      clear c
      clear hv
      obtain ⟨tN00, tN01, tN02, tN03⟩ := id N0.facts2
      go_wp2_with fail
      refine (alive_any _ pw).mono ?_
      rintro e w6 ⟨rfl, c⟩
      clear tN00 tN01 tN02 tN03
      replace pw := pw.below c
      replace hs := hs.below c
      replace B0 := B0.below c
      replace oN := oN.below c
      replace N0 := N0.below c
      replace bt := bt.trans (c.mono bt.size)
      clear c
      go_wp2_with fail
      go_ret
      exact ⟨rfl, bt⟩
    | true =>
      have hvs : svOk ⟨nst, nl⟩ = true := by have := bkNow_valid hv; rw [HN.out] at this; exact this
      have hF := bkNow_first hv
      simp only at hF
      have KF := Lib.hid (show ∀ (w' : World), Legs w' a1 l → Calls Tryd.prog 32 #[.agg #[.int .i64 st, .slice a1 l.length c1, .slice none 0 0, .slice none 0 0]] w' (SvRet ⟨st, l⟩ w') from fun w' h => by
        have := bookNow_any a1 none none c1 0 0 st l [] [] w' (by omega) (by simp) (by simp) (nilB h)
        rw [hF] at this
        exact this)
      clear hF HN
      obtain ⟨tB00, tB01, tB02, tB03, tB04, tB05⟩ := id B0.facts4
      go_wp2_with fail
      refine (sbookValid_any a1 a2 a3 c1 c2 c3 st l d u _ (by omega) (by omega) (by omega) hs).mono ?_
      rintro e w7 ⟨rfl, c⟩
      clear tB00 tB01 tB02 tB03 tB04 tB05
      rw [hv]
      replace pw := pw.below c
      replace hs := hs.below c
      replace B0 := B0.below c
      replace oN := oN.below c
      replace N0 := N0.below c
      replace bt := bt.trans (c.mono bt.size)
      clear c
      clear hv
      go_upto_region 9 with fail
      obtain ⟨tN00, tN01, tN02, tN03⟩ := id N0.facts2
      obtain ⟨tB00, tB01, tB02, tB03, tB04, tB05⟩ := id B0.facts4
      have hn := oN.kr
      have hl1 := hs.l
      go_region_held3 (fun w' => Below w7.heap.size w7 w' ∧ ∀ b o, b < w7.heap.size → w'.cell? ⟨b, o, none⟩ = w7.cell? ⟨b, o, none⟩) (exact kept (by repeat (first | with_reducible assumption | with_reducible exact Below.refl _ _ | with_reducible refine Below.setCell ?_ (by first | omega | (simp; done) | (simp; omega)) _ | with_reducible refine Below.alloc ?_ (by first | omega | (simp; done) | (simp; omega)) _ | with_reducible refine Below.drew ?_)))
        (first
        | (go_at_call 18; refine (sameSurvey_any _ _ _ _ st st l l _ (by omega) (by omega) oy.kr (hl1.below (by repeat (first | with_reducible assumption | with_reducible exact Below.refl _ _ | with_reducible refine Below.setCell ?_ (by first | omega | (simp; done) | (simp; omega)) _ | with_reducible refine Below.alloc ?_ (by first | omega | (simp; done) | (simp; omega)) _ | with_reducible refine Below.drew ?_)))).mono ?_; rintro e wz ⟨rfl, cc⟩; rw [dec_yes rfl]; have Bz := kept_next (V := w7) (by repeat (first | with_reducible assumption | with_reducible exact Below.refl _ _ | with_reducible refine Below.setCell ?_ (by first | omega | (simp; done) | (simp; omega)) _ | with_reducible refine Below.alloc ?_ (by first | omega | (simp; done) | (simp; omega)) _ | with_reducible refine Below.drew ?_)) cc; have zz := Bz.size; (first | have hA0 := A0.lt | skip); (first | have A0 := A0.below cc | have A0 := A0.drew.below cc | have A0 := At.born cc | have A0 := At.bornD cc | skip); clear cc)
        | (go_at_call 32; refine (KF.out _ (hl1.below (by repeat (first | with_reducible assumption | with_reducible exact Below.refl _ _ | with_reducible refine Below.setCell ?_ (by first | omega | (simp; done) | (simp; omega)) _ | with_reducible refine Below.alloc ?_ (by first | omega | (simp; done) | (simp; omega)) _ | with_reducible refine Below.drew ?_)))).mono ?_; rintro e wy ⟨vy, rfl, oy, cc⟩; obtain ⟨ay, cy, rfl⟩ := oy.sl; have By := kept_next (V := w7) (by repeat (first | with_reducible assumption | with_reducible exact Below.refl _ _ | with_reducible refine Below.setCell ?_ (by first | omega | (simp; done) | (simp; omega)) _ | with_reducible refine Below.alloc ?_ (by first | omega | (simp; done) | (simp; omega)) _ | with_reducible refine Below.drew ?_)) cc; have zy := By.size; (first | have hA0 := A0.lt | skip); (first | have A0 := A0.below cc | have A0 := A0.drew.below cc | have A0 := At.born cc | have A0 := At.bornD cc | skip); clear cc)
        | (go_at_call 19; refine (surveyValid_any _ _ nst nl _ (by omega) (hn.below (by repeat (first | with_reducible assumption | with_reducible exact Below.refl _ _ | with_reducible refine Below.setCell ?_ (by first | omega | (simp; done) | (simp; omega)) _ | with_reducible refine Below.alloc ?_ (by first | omega | (simp; done) | (simp; omega)) _ | with_reducible refine Below.drew ?_)))).mono ?_; rintro e wv ⟨rfl, cc⟩; rw [hvs]; have Bv := kept_next (V := w7) (by repeat (first | with_reducible assumption | with_reducible exact Below.refl _ _ | with_reducible refine Below.setCell ?_ (by first | omega | (simp; done) | (simp; omega)) _ | with_reducible refine Below.alloc ?_ (by first | omega | (simp; done) | (simp; omega)) _ | with_reducible refine Below.drew ?_)) cc; have zv := Bv.size; (first | have hA0 := A0.lt | skip); (first | have A0 := A0.below cc | have A0 := A0.drew.below cc | have A0 := At.born cc | have A0 := At.bornD cc | skip); clear cc))
      all_goals (go_wp2_with fail; go_ret)
      all_goals exact ⟨rfl, bt.trans (Below.mono (by repeat (first | with_reducible assumption | with_reducible exact Below.refl _ _ | with_reducible refine Below.setCell ?_ (by first | omega | (simp; done) | (simp; omega)) _ | with_reducible refine Below.alloc ?_ (by first | omega | (simp; done) | (simp; omega)) _ | with_reducible refine Below.drew ?_)) bt.size)⟩
end Go.Proofs.YtdgnndlhnblenaaDoor
