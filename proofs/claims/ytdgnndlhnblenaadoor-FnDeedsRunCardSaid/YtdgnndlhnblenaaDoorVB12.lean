/- The law FnDeedsRun, walked: deeds follow each other (written by wip/bin/gen_vb12.py). -/
import Derived.Test.YtdgnndlhnblenaaDoorR7
import Derived.Test.YtdgnndlhnblenaaDoorR4
import Derived.Test.YtdgnndlhnblenaaDoorT1
import Derived.Test.YtdgnndlhnblenaaDoorK7
import Derived.Test.YtdgnndlhnblenaaDoorK8
set_option linter.unusedSimpArgs false
set_option linter.unusedVariables false
namespace Go.Proofs.YtdgnndlhnblenaaDoor
open Go Go.RowKit Go.Sort

theorem backsOf_snoc : ∀ (l : List Dd) (s : Sv) (d : Dd), (runFrom s l).2 = l.length → backsOf s (l ++ [d]) = (ddBack (runFrom s l).1 d).1 :: backsOf s l
  | [], _, _, _ => rfl
  | e :: l, s, d, h => by
    by_cases he : (ddDo s e).2 = true
    · rw [runFrom_cons he] at h ⊢
      simp only [List.length_cons] at h
      simp only [List.cons_append, backsOf]
      rw [backsOf_snoc l _ d (by omega)]
      rfl
    · rw [runFrom_halt he] at h; simp at h
theorem run_round {s : Sv} {l : List Dd} {k : Nat} (hk : k < (runFrom s l).2) : (ddDo (runFrom s (l.take k)).1 (nth l k)).2 = true ∧ (runFrom s (l.take (k + 1))).1 = (ddDo (runFrom s (l.take k)).1 (nth l k)).1 ∧
    backsOf s (l.take (k + 1)) = (ddBack (runFrom s (l.take k)).1 (nth l k)).1 :: backsOf s (l.take k) := by
  have hl := runFrom_le l s
  have h1 := runFrom_take k l s (by omega)
  have h2 := runFrom_take (k + 1) l s (by omega)
  have hlen : (l.take k).length = k := by simp; omega
  have e := take_nth (xs := l) (k := k) (by omega)
  have h3 := runFrom_snoc (s := s) (l := l.take k) (d := nth l k) (by rw [h1, hlen])
  rw [e] at h2 ⊢
  rw [h3] at h2 ⊢
  by_cases hc : (ddDo (runFrom s (l.take k)).1 (nth l k)).2 = true
  · rw [if_pos hc]
    exact ⟨hc, rfl, backsOf_snoc _ _ _ (by rw [h1, hlen])⟩
  · rw [if_neg hc] at h2
    simp only [hlen] at h2
    omega
theorem ddBack_can {s : Sv} {d : Dd} (h : (ddDo s d).2 = true) : (ddBack s d).2 = true := by unfold ddBack; rw [if_pos h]
theorem run_valid {s : Sv} (h : svOk s = true) (l : List Dd) : svOk (runFrom s l).1 = true := runFrom_valid l s h
/-- the deeds being undone one after the other: the boxes of the survey drawn, of the one that came out and of the one that stands -/
structure NwSt (w : World) (BS BX NB : Nat) (st : Int) (l : List Lg) (av : Option Addr) (cv : Nat) (ds : List Dd) (ad : Option Addr) (xst : Int) (xl : List Lg) (ax : Option Addr) (cx : Nat) (nst : Int) (ns : List Lg) (an : Option Addr) (cn : Nat) (bs : List Dd) (ab : Option Addr) (wr : World) : Prop where
  s : At wr BS [.int .i64 st, .slice av l.length cv]
  x : At wr BX [.int .i64 xst, .slice ax xl.length cx]
  n : At wr NB [.int .i64 nst, .slice an ns.length cn]
  ls : Legs wr av l
  ld : Dds wr ad ds
  lx : Legs wr ax xl
  ln : Legs wr an ns
  lb : Dds wr ab bs
  bs : ∀ b o, av = some ⟨b, o, none⟩ → b ≠ NB
  bd : ∀ b o, ad = some ⟨b, o, none⟩ → b ≠ NB
  bx : ∀ b o, ax = some ⟨b, o, none⟩ → b ≠ NB
  bn : ∀ b o, an = some ⟨b, o, none⟩ → b ≠ NB
  bb : ∀ b o, ab = some ⟨b, o, none⟩ → b ≠ NB
  u : Below w.heap.size w wr
  h1 : BS < NB
  h2 : BX < NB
  h3 : w.heap.size ≤ NB
section
variable {w wr w2 : World} {BS BX NB : Nat} {st : Int} {l : List Lg} {av : Option Addr} {cv : Nat} {ds : List Dd} {ad : Option Addr} {xst : Int} {xl : List Lg} {ax : Option Addr} {cx : Nat} {nst : Int} {ns : List Lg} {an : Option Addr} {cn : Nat} {bs : List Dd} {ab : Option Addr}
theorem NwSt.below (h : NwSt w BS BX NB st l av cv ds ad xst xl ax cx nst ns an cn bs ab wr) (hb : Below wr.heap.size wr w2) : NwSt w BS BX NB st l av cv ds ad xst xl ax cx nst ns an cn bs ab w2 :=
  ⟨h.s.below hb, h.x.below hb, h.n.below hb, h.ls.below hb, h.ld.below hb, h.lx.below hb, h.ln.below hb, h.lb.below hb, h.bs, h.bd, h.bx, h.bn, h.bb, h.u.trans (hb.mono h.u.size), h.h1, h.h2, h.h3⟩
theorem NwSt.put (h : NwSt w BS BX NB st l av cv ds ad xst xl ax cx nst ns an cn bs ab wr) {mst : Int} {ms : List Lg} {am : Option Addr} {cm : Nat} (hm : Legs wr am ms) (hn : ∀ b o, am = some ⟨b, o, none⟩ → b ≠ NB) {cs : List Dd} {ac : Option Addr} (hc : Dds wr ac cs) (hcn : ∀ b o, ac = some ⟨b, o, none⟩ → b ≠ NB) :
    NwSt w BS BX NB st l av cv ds ad xst xl ax cx mst ms am cm cs ac ((wr.setCell ⟨NB, 0, none⟩ (.int .i64 mst)).setCell ⟨NB, 1, none⟩ (.slice am ms.length cm)) := by
  have h1 := h.h1
  have h2 := h.h2
  have h3 := h.h3
  exact ⟨(h.s.setOther (p := ⟨NB, 0, none⟩) (by show BS ≠ NB; omega) _).setOther (p := ⟨NB, 1, none⟩) (by show BS ≠ NB; omega) _, (h.x.setOther (p := ⟨NB, 0, none⟩) (by show BX ≠ NB; omega) _).setOther (p := ⟨NB, 1, none⟩) (by show BX ≠ NB; omega) _, h.n.sets2 _ _,
    (h.ls.setCell ⟨NB, 0, none⟩ _ h.bs).setCell ⟨NB, 1, none⟩ _ h.bs, (h.ld.setCell ⟨NB, 0, none⟩ _ h.bd).setCell ⟨NB, 1, none⟩ _ h.bd, (h.lx.setCell ⟨NB, 0, none⟩ _ h.bx).setCell ⟨NB, 1, none⟩ _ h.bx, (hm.setCell ⟨NB, 0, none⟩ _ hn).setCell ⟨NB, 1, none⟩ _ hn, (hc.setCell ⟨NB, 0, none⟩ _ hcn).setCell ⟨NB, 1, none⟩ _ hcn,
    h.bs, h.bd, h.bx, hn, hcn, (h.u.setCell (p := ⟨NB, 0, none⟩) h3 _).setCell (p := ⟨NB, 1, none⟩) h3 _, h1, h2, h3⟩
end
theorem own_ne {α : Type} [Inhabited α] {K : Kind α} {T : TypeId} {w : World} {B NB : Nat} {a : Option Addr} {n c : Nat} {xs : List α} (h : KOwn K T w B (.slice a n c) xs) (hB : NB < B) : ∀ b o, a = some ⟨b, o, none⟩ → b ≠ NB := fun b o e => by
  obtain ⟨_, _, e1, _, _, _, _, h2⟩ := h.form
  injection e1 with e3 e4 e5
  subst e3
  have := (h2 b o e).1
  omega
theorem own_lt {α : Type} [Inhabited α] {K : Kind α} {T : TypeId} {w : World} {B NB : Nat} {a : Option Addr} {n c : Nat} {xs : List α} (h : KOwn K T w B (.slice a n c) xs) (hB : w.heap.size ≤ NB) : ∀ b o, a = some ⟨b, o, none⟩ → b ≠ NB := fun b o e => by
  obtain ⟨_, _, e1, _, _, _, _, h2⟩ := h.form
  injection e1 with e3 e4 e5
  subst e3
  have := (h2 b o e).2.1
  omega
set_option maxRecDepth 100000 in
set_option maxHeartbeats 8000000 in
theorem lawDeedsRun (a : Option Addr) (n c : Nat) (w : World) (hc : n ≤ c) (hn : n ≤ 9223372036854775807) (hb : n ≤ 1048576 → Bytes w a n) (hpw : Pow w) :
    Calls Tryd.prog 5 #[.slice a n c] w fun e w' => e = .returned (.bool true) ∧ Below w.heap.size w w' := by
  by_cases hbig : 1048576 < n
  · go_enter Tryd.func5, Tryd.ntmps5
    go_wp2_with fail
    go_ret
    exact ⟨rfl, (by repeat (first | with_reducible assumption | exact Below.refl _ _ | refine below_drewN ?_ _ | refine Below.drew ?_ | refine Below.alloc ?_ (by first | omega | (simp; done) | (simp; omega)) _ | refine Below.setCell ?_ (by first | omega | (simp; done) | (simp; omega)) _))⟩
  replace hb := hb (by omega)
  go_enter Tryd.func5, Tryd.ntmps5
  go_wp2_with fail
  refine (drawDeedsRun_any a n c w hc (by omega) hb).mono ?_
  rintro e w1 ⟨⟨st, l⟩, v, ds, u, rfl, ol, od, hl, hst, hds, bt⟩
  obtain ⟨av, cv, rfl⟩ := ol.sl
  obtain ⟨ad, cd, rfl⟩ := od.sl
  simp only at ol od hl hst ⊢
  have pw := hpw.below bt
  have hcd := od.caps.1
  clear hb hpw hn hc hbig
  have hadc : (ad = none ∧ ds = [] ∧ cd = 0) ∨ ∃ b off, ad = some ⟨b, off, none⟩ := by
    have h1 := od.caps.2.2
    obtain ⟨a2, c2, e, _, _, h2, h3, _⟩ := od.form
    cases ad with
    | none =>
      injection e with e1 e2 e3
      have e4 := h3 e1.symm
      injection e4 with _ e5 e6
      exact .inl ⟨rfl, List.eq_nil_of_length_eq_zero e5, e6⟩
    | some p =>
      obtain ⟨b, off, sp⟩ := p
      have := h1 _ rfl
      simp only at this
      subst this
      exact .inr ⟨b, off, rfl⟩
  have HAD := Lib.hid hadc
  clear hadc
  obtain ⟨⟨⟨xst, xl⟩, N⟩, hp⟩ : ∃ p, ddRun ⟨st, l⟩ ds = p := ⟨_, rfl⟩
  have hxl : xl.length ≤ 9 := by have := ddRun_len ⟨st, l⟩ ds; rw [hp] at this; exact this
  have KI := Lib.hid (show ∀ (w' : World), Legs w' av l → Dds w' ad ds → Calls Tryd.prog 25 #[.agg #[.int .i64 st, .slice av l.length cv], .slice ad ds.length cd] w' (RunOut (⟨xst, xl⟩, N) w') from fun w' h h2 => by
    have := deedsRun_any av cv st l ad cd ds w' (by omega) (by omega) h h2
    rw [hp] at this
    exact this)
  have KS := Lib.hid (show ∀ (w' : World), Legs w' av l → Dds w' ad ds → Calls Tryd.prog 26 #[.agg #[.int .i64 st, .slice av l.length cv], .slice ad ds.length cd] w' (RunOut (⟨xst, xl⟩, N) w') from fun w' h h2 => by
    have := sdeedsRun_any av cv st l ad cd ds w' (by omega) (by omega) h h2
    rw [hp] at this
    exact this)
  have HP := Lib.hid hp
  clear hp
  go_upto_region 4 with fail
  obtain ⟨BS0, hY⟩ : ∃ Y, w1.heap.size = Y := ⟨_, rfl⟩
  obtain ⟨w2, hV⟩ : ∃ V, V = w1.alloc (.cells #[.int .i64 st, .slice av l.length cv] 25) := ⟨_, rfl⟩
  have c : Below w1.heap.size w1 w2 := by rw [hV]; exact (by repeat (first | with_reducible assumption | exact Below.refl _ _ | refine below_drewN ?_ _ | refine Below.drew ?_ | refine Below.alloc ?_ (by first | omega | (simp; done) | (simp; omega)) _ | refine Below.setCell ?_ (by first | omega | (simp; done) | (simp; omega)) _))
  have S0 : At w2 BS0 [.int .i64 st, .slice av l.length cv] := by rw [hV]; exact At.new _ _ _ hY.symm rfl
  rw [hY, ← hV]
  clear hV hY
  replace pw := pw.below c
  replace ol := ol.below c
  replace od := od.below c
  replace bt := bt.trans (c.mono bt.size)
  clear c
  obtain ⟨tS00, tS01, tS02, tS03⟩ := id S0.facts2
  go_wp2_with fail
  refine (KI.out _ ol.kr od.kr).mono ?_
  rintro e w3 ⟨vX, rfl, oX, c⟩
  clear tS00 tS01 tS02 tS03
  obtain ⟨aX, cX, rfl⟩ := oX.sl
  simp only at oX ⊢
  replace pw := pw.below c
  replace ol := ol.below c
  replace od := od.below c
  replace S0 := S0.below c
  replace bt := bt.trans (c.mono bt.size)
  clear c
  go_upto_region 5 with fail
  obtain ⟨BX0, hY⟩ : ∃ Y, w3.heap.size = Y := ⟨_, rfl⟩
  obtain ⟨w4, hV⟩ : ∃ V, V = w3.alloc (.cells #[.int .i64 xst, .slice aX xl.length cX] 25) := ⟨_, rfl⟩
  have c : Below w3.heap.size w3 w4 := by rw [hV]; exact (by repeat (first | with_reducible assumption | exact Below.refl _ _ | refine below_drewN ?_ _ | refine Below.drew ?_ | refine Below.alloc ?_ (by first | omega | (simp; done) | (simp; omega)) _ | refine Below.setCell ?_ (by first | omega | (simp; done) | (simp; omega)) _))
  have X0 : At w4 BX0 [.int .i64 xst, .slice aX xl.length cX] := by rw [hV]; exact At.new _ _ _ hY.symm rfl
  rw [hY, ← hV]
  clear hV hY
  replace pw := pw.below c
  replace ol := ol.below c
  replace od := od.below c
  replace S0 := S0.below c
  replace oX := oX.below c
  replace bt := bt.trans (c.mono bt.size)
  clear c
  obtain ⟨tS00, tS01, tS02, tS03⟩ := id S0.facts2
  go_wp2_with fail
  refine (KS.out _ ol.kr od.kr).mono ?_
  rintro e w5 ⟨vY, rfl, oY, c⟩
  clear tS00 tS01 tS02 tS03
  obtain ⟨aY, cY, rfl⟩ := oY.sl
  simp only at oY ⊢
  replace pw := pw.below c
  replace ol := ol.below c
  replace od := od.below c
  replace S0 := S0.below c
  replace oX := oX.below c
  replace X0 := X0.below c
  replace bt := bt.trans (c.mono bt.size)
  clear c
  go_upto_region 6 with fail
  obtain ⟨BY0, hY⟩ : ∃ Y, w5.heap.size = Y := ⟨_, rfl⟩
  obtain ⟨w6, hV⟩ : ∃ V, V = w5.alloc (.cells #[.int .i64 xst, .slice aY xl.length cY] 25) := ⟨_, rfl⟩
  have c : Below w5.heap.size w5 w6 := by rw [hV]; exact (by repeat (first | with_reducible assumption | exact Below.refl _ _ | refine below_drewN ?_ _ | refine Below.drew ?_ | refine Below.alloc ?_ (by first | omega | (simp; done) | (simp; omega)) _ | refine Below.setCell ?_ (by first | omega | (simp; done) | (simp; omega)) _))
  have Y0 : At w6 BY0 [.int .i64 xst, .slice aY xl.length cY] := by rw [hV]; exact At.new _ _ _ hY.symm rfl
  rw [hY, ← hV]
  clear hV hY
  replace pw := pw.below c
  replace ol := ol.below c
  replace od := od.below c
  replace S0 := S0.below c
  replace oX := oX.below c
  replace X0 := X0.below c
  replace oY := oY.below c
  replace bt := bt.trans (c.mono bt.size)
  clear c
  have hok : ((N : Int) != (N : Int)) = false := by simp
  obtain ⟨tX00, tX01, tX02, tX03⟩ := id X0.facts2
  obtain ⟨tY00, tY01, tY02, tY03⟩ := id Y0.facts2
  go_wp2_with fail
  refine (sameSurvey_any _ _ _ _ xst xst xl xl _ (by omega) (by omega) oX.kr oY.kr).mono ?_
  rintro e w7 ⟨rfl, c⟩
  clear tX00 tX01 tX02 tX03 tY00 tY01 tY02 tY03
  rw [dec_yes rfl]
  replace pw := pw.below c
  replace ol := ol.below c
  replace od := od.below c
  replace S0 := S0.below c
  replace oX := oX.below c
  replace X0 := X0.below c
  replace oY := oY.below c
  replace Y0 := Y0.below c
  replace bt := bt.trans (c.mono bt.size)
  clear c
  clear oY Y0
  obtain ⟨tS00, tS01, tS02, tS03⟩ := id S0.facts2
  go_wp2_with fail
  refine (ssurveyValid_any _ _ st l _ (by omega) ol.kr).mono ?_
  rintro e w8 ⟨rfl, c⟩
  clear tS00 tS01 tS02 tS03
  replace pw := pw.below c
  replace ol := ol.below c
  replace od := od.below c
  replace S0 := S0.below c
  replace oX := oX.below c
  replace X0 := X0.below c
  replace bt := bt.trans (c.mono bt.size)
  clear c
  clear hok
  cases hv : svOk ⟨st, l⟩ with
  | false =>
    have hz := HP.out
    rw [ddRun_bad hv] at hz
    simp only [zeroSv, Prod.mk.injEq, Sv.mk.injEq] at hz
    obtain ⟨⟨rfl, rfl⟩, rfl⟩ := hz
    clear oX hv
    simp only [List.length_nil] at X0
    obtain ⟨tX00, tX01, tX02, tX03⟩ := id X0.facts2
    go_wp2_with fail
    refine (alive_any _ pw).mono ?_
    rintro e w9 ⟨rfl, c⟩
    clear tX00 tX01 tX02 tX03
    replace pw := pw.below c
    replace ol := ol.below c
    replace od := od.below c
    replace S0 := S0.below c
    replace X0 := X0.below c
    replace bt := bt.trans (c.mono bt.size)
    clear c
    go_wp2_with fail
    go_ret
    exact ⟨rfl, bt⟩
  | true =>
    have hr := HP.out
    rw [ddRun_ok hv] at hr
    have hNl : N ≤ ds.length := by have := runFrom_le ds ⟨st, l⟩; rw [hr] at this; exact this
    have hxv : svOk ⟨xst, xl⟩ = true := by have := runFrom_valid ds _ hv; rw [hr] at this; exact this
    have HR := Lib.hid hr
    have HV := Lib.hid hv
    have HXV := Lib.hid hxv
    clear hr hv hxv HP KS
    obtain ⟨tS0, tS1, tS2, tS3⟩ := id S0.facts2
    go_upto_region 12 with fail
    obtain ⟨NB, hNB⟩ : ∃ Y, w8.heap.size + 1 = Y := ⟨_, rfl⟩
    obtain ⟨O, hO⟩ : ∃ Y, w8.heap.size = Y := ⟨_, rfl⟩
    obtain ⟨w10, hV⟩ : ∃ V, V = (w8.alloc (.cells #[] 29)).alloc (.cells #[.int .i64 st, .slice av l.length cv] 25) := ⟨_, rfl⟩
    have c : Below w8.heap.size w8 w10 := by rw [hV]; exact (by repeat (first | with_reducible assumption | exact Below.refl _ _ | refine below_drewN ?_ _ | refine Below.drew ?_ | refine Below.alloc ?_ (by first | omega | (simp; done) | (simp; omega)) _ | refine Below.setCell ?_ (by first | omega | (simp; done) | (simp; omega)) _))
    have N0 : At w10 NB [.int .i64 st, .slice av l.length cv] := by rw [hV]; exact At.new _ _ _ (by simp [hNB]) rfl
    rw [hNB, hO, ← hV]
    have hw0 : w.heap.size ≤ O := by have := bt.size; omega
    have H0 : NwSt w BS0 BX0 NB st l av cv ds ad xst xl aX cX st l av cv [] (some ⟨O, 0, none⟩) w10 := by
      have hS := S0.lt
      have hX := X0.lt
      exact ⟨S0.below c, X0.below c, N0, (ol.below c).kr, (od.below c).kr, (oX.below c).kr, (ol.below c).kr, .inl rfl, own_lt ol (by omega), own_lt od (by omega), own_lt oX (by omega), own_lt ol (by omega), fun b o e => by cases e; omega, bt.trans (c.mono bt.size), by omega, by omega, by omega⟩
    clear hV N0 c S0 X0 ol od oX tS0 tS1 tS2 tS3 pw bt hw0
    go_wp2_with fail
    go_loopw [9, 11] (fun o i wr => ∃ (k : Nat) (nst : Int) (ns : List Lg) (an : Option Addr) (cn : Nat) (bs : List Dd) (ab : Option Addr) (cb : Nat), k ≤ N ∧ i = .int .i64 k ∧ o = .slice ab bs.length cb ∧ ns.length ≤ 10 ∧ Hid ((runFrom ⟨st, l⟩ (ds.take k)).1 = ⟨nst, ns⟩) ∧ Hid (backsOf ⟨st, l⟩ (ds.take k) = bs) ∧ NwSt w BS0 BX0 NB st l av cv ds ad xst xl aX cX nst ns an cn bs ab wr) (fun _ i _ => N - (intOf i).toNat)
    case atStart => exact ⟨0, st, l, av, cv, [], some ⟨O, 0, none⟩, 0, by omega, rfl, rfl, hl, rfl, rfl, H0⟩
    case round =>
      clear H0 hO hNB
      obtain ⟨k, nst, ns, an, cn, bs, ab, cb, hk, rfl, rfl, hnl, HN, HB, H⟩ := hrel
      by_cases hlt : k < N
      · have hkd : k < ds.length := by omega
        have hbl : bs.length = k := by rw [← HB.out, backsOf_len]; simp; omega
        have HBL := Lib.hid hbl
        clear hbl
        obtain ⟨q1, q2, q3⟩ := run_round (s := ⟨st, l⟩) (l := ds) (k := k) (by rw [HR.out]; exact hlt)
        rw [HN.out] at q1 q2 q3
        rw [HB.out] at q3
        obtain ⟨⟨kd, ix, ⟨g1, g2, g3, g4, g5⟩⟩, hD⟩ : ∃ p, nth ds k = p := ⟨_, rfl⟩
        rw [hD] at q1 q2 q3
        obtain ⟨⟨⟨zk, zi, ⟨z1, z2, z3, z4, z5⟩⟩, cb2⟩, hq⟩ : ∃ p, ddBack ⟨nst, ns⟩ ⟨kd, ix, ⟨g1, g2, g3, g4, g5⟩⟩ = p := ⟨_, rfl⟩
        have hcb := ddBack_can q1
        rw [hq] at hcb q3
        simp only at hcb q3
        subst hcb
        obtain ⟨⟨⟨mst, ms⟩, cm2⟩, hm⟩ : ∃ p, ddDo ⟨nst, ns⟩ ⟨kd, ix, ⟨g1, g2, g3, g4, g5⟩⟩ = p := ⟨_, rfl⟩
        have hml : ms.length ≤ 9 := by have := ddDo_len ⟨nst, ns⟩ ⟨kd, ix, ⟨g1, g2, g3, g4, g5⟩⟩; rw [hm] at this; exact this
        rw [hm] at q1 q2
        simp only at q1 q2
        subst q1
        have KB := Lib.hid (show ∀ (w' : World), Legs w' an ns → Calls Tryd.prog 21 #[.agg #[.int .i64 nst, .slice an ns.length cn], .agg #[.int .i64 kd, .int .i64 ix, .int .i64 g1, .int .i64 g2, .int .i64 g3, .int .i64 g4, .int .i64 g5]] w' (DdOut (⟨zk, zi, ⟨z1, z2, z3, z4, z5⟩⟩, true) w') from fun w' h => by
          have := deedBack_any an cn nst ns ⟨kd, ix, ⟨g1, g2, g3, g4, g5⟩⟩ w' (by omega) h
          rw [hq] at this
          exact this)
        have KD := Lib.hid (show ∀ (w' : World), Legs w' an ns → Calls Tryd.prog 16 #[.agg #[.int .i64 nst, .slice an ns.length cn], .agg #[.int .i64 kd, .int .i64 ix, .int .i64 g1, .int .i64 g2, .int .i64 g3, .int .i64 g4, .int .i64 g5]] w' (SvOut (⟨mst, ms⟩, true) w') from fun w' h => by
          have := deedDo_any an cn nst ns ⟨kd, ix, ⟨g1, g2, g3, g4, g5⟩⟩ w' (by omega) h
          rw [hm] at this
          exact this)
        have HQ2 := Lib.hid q2
        have HQ3 := Lib.hid q3
        have HD := Lib.hid hD
        clear q2 q3 hq hm hD HN HB
        have hk1 : (k : Int) < (N : Int) := by omega
        have hk2 : (k : Int) < (ds.length : Int) := by omega
        go_upto_region 15 with fail
        have hld := H.ld
        obtain ⟨be, off, rfl, hbe, m0, m1, m2, m3, m4, m5, m6⟩ := Dds.at hld hkd
        rw [HD.out] at m0 m1 m2 m3 m4 m5 m6
        simp only at m0 m1 m2 m3 m4 m5 m6
        obtain ⟨n, n0, n1, nf⟩ := id H.n.facts2
        have hln := H.ln
        go_cut [12, 13] (fun p12 p13 wx => p13 = .bool true ∧ Boxed wr [.int .i64 zk, .int .i64 zi, .int .i64 z1, .int .i64 z2, .int .i64 z3, .int .i64 z4, .int .i64 z5] p12 wx)
        case first =>
          go_region_held3 (fun w' => Below wr.heap.size wr w' ∧ ∀ b o, b < wr.heap.size → w'.cell? ⟨b, o, none⟩ = wr.cell? ⟨b, o, none⟩) (exact kept (by repeat (first | with_reducible assumption | with_reducible exact Below.refl _ _ | with_reducible refine Below.setCell ?_ (by first | omega | (simp; done) | (simp; omega)) _ | with_reducible refine Below.alloc ?_ (by first | omega | (simp; done) | (simp; omega)) _ | with_reducible refine Below.drew ?_)))
            (first
            | (go_at_call 21; refine (KB.out _ (hln.below (by repeat (first | with_reducible assumption | with_reducible exact Below.refl _ _ | with_reducible refine Below.setCell ?_ (by first | omega | (simp; done) | (simp; omega)) _ | with_reducible refine Below.alloc ?_ (by first | omega | (simp; done) | (simp; omega)) _ | with_reducible refine Below.drew ?_)))).mono ?_; rintro e wz ⟨rfl, cc⟩; simp only [Dd.val]; have Bz := kept_next (V := wr) (by repeat (first | with_reducible assumption | with_reducible exact Below.refl _ _ | with_reducible refine Below.setCell ?_ (by first | omega | (simp; done) | (simp; omega)) _ | with_reducible refine Below.alloc ?_ (by first | omega | (simp; done) | (simp; omega)) _ | with_reducible refine Below.drew ?_)) cc; have zz := Bz.size; (first | have hA0 := A0.lt | skip); (first | have A0 := A0.below cc | have A0 := A0.drew.below cc | have A0 := At.born cc | have A0 := At.bornD cc | skip); (first | obtain ⟨jz0, jz1, jz2, jz3, jz4, jz5, jz6, jz7, jz8⟩ := A0.facts7 | skip); clear cc))
          all_goals (go_wp2_with fail; go_meet)
          all_goals first
            | exact ⟨rfl, _, rfl, by first | omega | (simp; omega), A0.sets7 _ _ _ _ _ _ _, (by repeat (first | with_reducible assumption | with_reducible exact Below.refl _ _ | with_reducible refine Below.setCell ?_ (by first | omega | (simp; done) | (simp; omega)) _ | with_reducible refine Below.alloc ?_ (by first | omega | (simp; done) | (simp; omega)) _ | with_reducible refine Below.drew ?_))⟩
            | exact ⟨rfl, _, rfl, by first | omega | (simp; omega), At.new _ _ _ rfl rfl, (by repeat (first | with_reducible assumption | with_reducible exact Below.refl _ _ | with_reducible refine Below.setCell ?_ (by first | omega | (simp; done) | (simp; omega)) _ | with_reducible refine Below.alloc ?_ (by first | omega | (simp; done) | (simp; omega)) _ | with_reducible refine Below.drew ?_))⟩
            | exact ⟨rfl, _, rfl, by first | omega | (simp; omega), (At.new _ _ _ rfl rfl).drew, (by repeat (first | with_reducible assumption | with_reducible exact Below.refl _ _ | with_reducible refine Below.setCell ?_ (by first | omega | (simp; done) | (simp; omega)) _ | with_reducible refine Below.alloc ?_ (by first | omega | (simp; done) | (simp; omega)) _ | with_reducible refine Below.drew ?_))⟩
        case rest =>
          obtain ⟨rfl, BQ, rfl, hBQ, Q0, c⟩ := hcut
          clear m0 m1 m2 m3 m4 m5 m6 hbe n n0 n1 nf hld hln
          have hNBq : NB < wr.heap.size := H.n.lt
          replace H := H.below c
          clear c
          obtain ⟨y, y0, y1, y2, y3, y4, y5, y6, yf⟩ := id Q0.facts7
          have hlb := H.lb
          go_wp2_with (at_builtin; refine wpList_kApp ddI _ _ rfl rfl wc.heap.size _ [⟨zk, zi, ⟨z1, z2, z3, z4, z5⟩⟩] bs ab cb rfl (ddLit wc wc.heap.size (Nat.le_refl _) ⟨zk, zi, ⟨z1, z2, z3, z4, z5⟩⟩) rfl (hlb.alloc _) (by simp) (by have := HBL.out; omega) (by simp) ?_; rintro av9 cv9 w9 o9 - b9 -)
          have b9' : Go.RowKit.Below wc.heap.size wc w9 := ((Below.refl _ wc).alloc (Nat.le_refl _) _).trans b9
          have hc9 : NB < wc.heap.size := H.n.lt
          replace H := H.below b9'
          have hN9 : NB < w9.heap.size := H.n.lt
          clear y y0 y1 y2 y3 y4 y5 y6 yf hlb Q0 b9 b9'
          go_upto_region 19 with fail
          have hld := H.ld
          obtain ⟨be2, off2, hbe1, hbe, m0, m1, m2, m3, m4, m5, m6⟩ := Dds.at hld hkd
          cases hbe1
          rw [HD.out] at m0 m1 m2 m3 m4 m5 m6
          simp only at m0 m1 m2 m3 m4 m5 m6
          obtain ⟨n, n0, n1, nf⟩ := id H.n.facts2
          have hln := H.ln
          go_cut [14] (fun p14 wx => BoxS w9 ⟨mst, ms⟩ p14 wx)
          case first =>
            go_region_held3 (fun w' => Below w9.heap.size w9 w' ∧ ∀ b o, b < w9.heap.size → w'.cell? ⟨b, o, none⟩ = w9.cell? ⟨b, o, none⟩) (exact kept (by repeat (first | with_reducible assumption | with_reducible exact Below.refl _ _ | with_reducible refine Below.setCell ?_ (by first | omega | (simp; done) | (simp; omega)) _ | with_reducible refine Below.alloc ?_ (by first | omega | (simp; done) | (simp; omega)) _ | with_reducible refine Below.drew ?_)))
              (first
              | (go_at_call 16; refine (KD.out _ (hln.below (by repeat (first | with_reducible assumption | with_reducible exact Below.refl _ _ | with_reducible refine Below.setCell ?_ (by first | omega | (simp; done) | (simp; omega)) _ | with_reducible refine Below.alloc ?_ (by first | omega | (simp; done) | (simp; omega)) _ | with_reducible refine Below.drew ?_)))).mono ?_; rintro e wz ⟨vz, rfl, oz, cc⟩; obtain ⟨az, cz, rfl⟩ := oz.sl; have Bz := kept_next (V := w9) (by repeat (first | with_reducible assumption | with_reducible exact Below.refl _ _ | with_reducible refine Below.setCell ?_ (by first | omega | (simp; done) | (simp; omega)) _ | with_reducible refine Below.alloc ?_ (by first | omega | (simp; done) | (simp; omega)) _ | with_reducible refine Below.drew ?_)) cc; have zz := Bz.size; (first | have hA0 := A0.lt | skip); (first | have A0 := A0.below cc | have A0 := A0.drew.below cc | have A0 := At.born cc | have A0 := At.bornD cc | skip); (first | obtain ⟨jz0, jz1, jz2, jz3⟩ := A0.facts2 | skip); clear cc))
            all_goals (go_wp2_with fail; go_meet)
            all_goals exact (by first | with_reducible exact boxS_new (s := ⟨mst, ms⟩) oz (by first | omega | (simp; done) | (simp; omega)) Bz | exact boxS_old (s := ⟨mst, ms⟩) A0 (by first | omega | (simp; done) | (simp; omega)) oz (by first | omega | (simp; done) | (simp; omega)) (by first | exact hA0 | simp) Bz)
          case rest =>
            obtain ⟨BR, aR, cR, rfl, hBR, R0, oR, neR, c⟩ := hcut
            simp only at R0 oR neR
            clear m0 m1 m2 m3 m4 m5 m6 hbe n n0 n1 nf hld hln
            replace H := H.below c
            replace o9 := o9.below c
            obtain ⟨r, r0, r1, rf⟩ := id R0.facts2
            obtain ⟨n, n0, n1, nf⟩ := id H.n.facts2
            have H9 := H.put (mst := mst) (cm := cR) oR.kr (own_ne oR hN9) o9.kr (own_ne o9 hc9)
            go_wp2_with fail
            go_roundw
            case rel => exact ⟨k + 1, mst, ms, aR, cR, _, av9, cv9, by omega, by go_num, by first | rfl | simp, by omega, HQ2, HQ3, H9⟩
            case measure => simp [intOf] <;> omega
      · obtain rfl : k = N := by omega
        have hbl : bs.length = k := by rw [← HB.out, backsOf_len]; simp; omega
        have hall := runFrom_all_take ⟨st, l⟩ ds
        rw [HR.out] at hall
        simp only at hall
        have e1 := HN.out
        rw [hall] at e1
        simp only [Sv.mk.injEq] at e1
        obtain ⟨rfl, rfl⟩ := e1
        have hlt2 : (ds.take k).length = k := by simp; omega
        have hback := run_backs (ds.take k) ⟨st, l⟩ (by rw [hall]; exact hlt2.symm)
        rw [hall, HB.out, hlt2] at hback
        simp only at hback
        obtain ⟨hh, hhe⟩ : ∃ hh, hh = k / 2 := ⟨_, rfl⟩
        have hhk : hh ≤ k := by omega
        have hhd := runFrom_take hh ds ⟨st, l⟩ (by rw [HR.out]; exact hhk)
        obtain ⟨⟨hst2, hsl⟩, hhs⟩ : ∃ p, (runFrom ⟨st, l⟩ (ds.take hh)).1 = p := ⟨_, rfl⟩
        have hhr : runFrom ⟨st, l⟩ (ds.take hh) = (⟨hst2, hsl⟩, hh) := Prod.ext hhs hhd
        have hpv : svOk ⟨hst2, hsl⟩ = true := by have := runFrom_valid (ds.take hh) _ HV.out; rw [hhs] at this; exact this
        have hsll : hsl.length ≤ 9 := (svOk_iff.1 hpv).2.2.1
        have hpt := runFrom_parts (s := ⟨st, l⟩) (l := ds.take k) hh (by rw [hall]; exact hlt2.symm) (by omega)
        rw [List.take_take, Nat.min_eq_left hhk, hhr, hall, hlt2] at hpt
        simp only at hpt
        have hd2 : ((ds.take k).drop hh).length = k - hh := by simp; omega
        have hd1 : (ds.take hh).length = hh := by simp; omega
        have KZ := Lib.hid (show ∀ (w' : World), Legs w' aX xl → Dds w' ab bs → Calls Tryd.prog 25 #[.agg #[.int .i64 xst, .slice aX xl.length cX], .slice ab bs.length cb] w' (RunOut (⟨st, l⟩, k) w') from fun w' h h2 => by
          have := deedsRun_any aX cX xst xl ab cb bs w' (by omega) (by omega) h h2
          rw [ddRun_ok HXV.out, hback] at this
          exact this)
        have KH := Lib.hid (show ∀ (w' : World), Legs w' av l → Dds w' ad ds → Calls Tryd.prog 25 #[.agg #[.int .i64 st, .slice av l.length cv], .slice ad hh cd] w' (RunOut (⟨hst2, hsl⟩, hh) w') from fun w' h h2 => by
          have := deedsRun_any av cv st l ad cd (ds.take hh) w' (by omega) (by omega) h (h2.take hh)
          rw [ddRun_ok HV.out, hhr, hd1] at this
          exact this)
        have KV := Lib.hid (show ∀ (A ah : Option Addr) (ch cp : Nat) (w' : World), Legs w' ah hsl → Dds w' A ((ds.take k).drop hh) → Calls Tryd.prog 25 #[.agg #[.int .i64 hst2, .slice ah hsl.length ch], .slice A (k - hh) cp] w' (RunOut (⟨xst, xl⟩, k - hh) w') from fun A ah ch cp w' h h2 => by
          have := deedsRun_any ah ch hst2 hsl A cp ((ds.take k).drop hh) w' (by omega) (by omega) h h2
          rw [ddRun_ok hpv, hpt, hd2] at this
          exact this)
        have HEN := Lib.hid (show k ≤ hh → ∀ (w' : World) (A : Option Addr), Dds w' A ((ds.take k).drop hh) from fun h w' A => by
          have e : (ds.take k).drop hh = [] := List.eq_nil_of_length_eq_zero (by rw [hd2]; omega)
          rw [e]; exact .inl rfl)
        have KE := Lib.hid (show k ≤ hh → ∀ (A ah : Option Addr) (ch cp : Nat) (w' : World), Legs w' ah hsl → Calls Tryd.prog 25 #[.agg #[.int .i64 hst2, .slice ah hsl.length ch], .slice A 0 cp] w' (RunOut (⟨xst, xl⟩, 0) w') from fun h0 A ah ch cp w' h => by
          have := KV.out A ah ch cp w' h (HEN.out h0 w' A)
          rw [Nat.sub_eq_zero_of_le h0] at this
          exact this)
        have hq2 : Int.tdiv (k : Int) 2 = (hh : Int) := by rw [Int.tdiv_eq_ediv_of_nonneg (by omega)]; omega
        have hq3 : IntKind.i64.wrap (hh : Int) = (hh : Int) := IntWalk.i64_in _ (by omega)
        have i1 : (hh : Int) ≤ (cd : Int) := by omega
        have i2 : hh ≤ cd := by omega
        have i3 : (0 : Int) ≤ (hh : Int) := by omega
        have i4 : (hh : Int) ≤ (k : Int) := by omega
        have i5 : (k : Int) ≤ (cd : Int) := by omega
        have i6 : k ≤ cd := by omega
        clear hback hall hhd hhr hhs hpt hd1 hd2 hlt2 hpv HB HN
        have HBL := Lib.hid hbl
        have HHE := Lib.hid hhe
        clear hbl hhe
        obtain ⟨x, x0, x1, xf⟩ := id H.x.facts2
        go_wp2_with fail
        refine (KZ.out _ H.lx H.lb).mono ?_
        rintro e z1 ⟨vZ, rfl, oZ, c⟩
        obtain ⟨aZ, cZ, rfl⟩ := oZ.sl
        simp only at oZ ⊢
        replace H := H.below c
        clear c KZ
        clear x x0 x1 xf
        go_upto_region 22 with fail
        obtain ⟨BZ, hY⟩ : ∃ Y, z1.heap.size = Y := ⟨_, rfl⟩
        obtain ⟨z2, hV⟩ : ∃ V, V = z1.alloc (.cells #[.int .i64 st, .slice aZ l.length cZ] 25) := ⟨_, rfl⟩
        have c : Below z1.heap.size z1 z2 := by rw [hV]; exact (by repeat (first | with_reducible assumption | exact Below.refl _ _ | refine below_drewN ?_ _ | refine Below.drew ?_ | refine Below.alloc ?_ (by first | omega | (simp; done) | (simp; omega)) _ | refine Below.setCell ?_ (by first | omega | (simp; done) | (simp; omega)) _))
        have Z0 : At z2 BZ [.int .i64 st, .slice aZ l.length cZ] := by rw [hV]; exact At.new _ _ _ hY.symm rfl
        rw [hY, ← hV]
        replace H := H.below c
        replace oZ := oZ.below c
        clear hV hY c
        rcases HAD.out with ⟨rfl, rfl, -⟩ | ⟨bd, off, rfl⟩
        · have hk0 : Hid (k ≤ hh) := by show k ≤ hh; have h : k ≤ 0 := hNl; omega
          clear hNl hcd
          obtain ⟨s, s0, s1, sf⟩ := id H.s.facts2
          have hls := H.ls
          have hld := H.ld
          go_cut [18] (fun p18 wx => BoxS z2 ⟨hst2, hsl⟩ p18 wx)
          case first =>
            go_region_held3 (fun w' => Below z2.heap.size z2 w' ∧ ∀ b o, b < z2.heap.size → w'.cell? ⟨b, o, none⟩ = z2.cell? ⟨b, o, none⟩) (exact kept (by repeat (first | with_reducible assumption | with_reducible exact Below.refl _ _ | with_reducible refine Below.setCell ?_ (by first | omega | (simp; done) | (simp; omega)) _ | with_reducible refine Below.alloc ?_ (by first | omega | (simp; done) | (simp; omega)) _ | with_reducible refine Below.drew ?_)))
              (first
              | (go_at_call 25; refine (KH.out _ (hls.below (by repeat (first | with_reducible assumption | with_reducible exact Below.refl _ _ | with_reducible refine Below.setCell ?_ (by first | omega | (simp; done) | (simp; omega)) _ | with_reducible refine Below.alloc ?_ (by first | omega | (simp; done) | (simp; omega)) _ | with_reducible refine Below.drew ?_))) (hld.below (by repeat (first | with_reducible assumption | with_reducible exact Below.refl _ _ | with_reducible refine Below.setCell ?_ (by first | omega | (simp; done) | (simp; omega)) _ | with_reducible refine Below.alloc ?_ (by first | omega | (simp; done) | (simp; omega)) _ | with_reducible refine Below.drew ?_)))).mono ?_; rintro e wz ⟨vz, rfl, oz, cc⟩; obtain ⟨az, cz, rfl⟩ := oz.sl; have Bz := kept_next (V := z2) (by repeat (first | with_reducible assumption | with_reducible exact Below.refl _ _ | with_reducible refine Below.setCell ?_ (by first | omega | (simp; done) | (simp; omega)) _ | with_reducible refine Below.alloc ?_ (by first | omega | (simp; done) | (simp; omega)) _ | with_reducible refine Below.drew ?_)) cc; have zz := Bz.size; (first | have hA0 := A0.lt | skip); (first | have A0 := A0.below cc | have A0 := A0.drew.below cc | have A0 := At.born cc | have A0 := At.bornD cc | skip); (first | obtain ⟨jz0, jz1, jz2, jz3⟩ := A0.facts2 | skip); clear cc))
            all_goals (go_wp2_with fail; go_meet)
            all_goals exact (by first | with_reducible exact boxS_new (s := ⟨hst2, hsl⟩) oz (by first | omega | (simp; done) | (simp; omega)) Bz | exact boxS_old (s := ⟨hst2, hsl⟩) A0 (by first | omega | (simp; done) | (simp; omega)) oz (by first | omega | (simp; done) | (simp; omega)) (by first | exact hA0 | simp) Bz)
          case rest =>
            obtain ⟨BH, aH, cH, rfl, hBH, H18, oH, neH, c⟩ := hcut
            simp only at H18 oH neH
            replace H := H.below c
            replace oZ := oZ.below c
            replace Z0 := Z0.below c
            clear c hls hld neH hBH
            clear s s0 s1 sf
            obtain ⟨z3, hW⟩ : ∃ W, W = wc := ⟨_, rfl⟩
            rw [← hW]
            subst hW
            go_upto_region 23 with fail
            obtain ⟨h, h0, h1, hf⟩ := id H18.facts2
            have hld := H.ld
            have hlh := oH.kr
            go_cut [20] (fun p20 wx => BoxS z3 ⟨xst, xl⟩ p20 wx)
            case first =>
              go_region_held3 (fun w' => Below z3.heap.size z3 w' ∧ ∀ b o, b < z3.heap.size → w'.cell? ⟨b, o, none⟩ = z3.cell? ⟨b, o, none⟩) (exact kept (by repeat (first | with_reducible assumption | with_reducible exact Below.refl _ _ | with_reducible refine Below.setCell ?_ (by first | omega | (simp; done) | (simp; omega)) _ | with_reducible refine Below.alloc ?_ (by first | omega | (simp; done) | (simp; omega)) _ | with_reducible refine Below.drew ?_)))
                (first
                | (go_at_call 25; refine (KV.out _ _ _ _ _ (hlh.below (by repeat (first | with_reducible assumption | with_reducible exact Below.refl _ _ | with_reducible refine Below.setCell ?_ (by first | omega | (simp; done) | (simp; omega)) _ | with_reducible refine Below.alloc ?_ (by first | omega | (simp; done) | (simp; omega)) _ | with_reducible refine Below.drew ?_))) (HEN.out hk0.out _ _)).mono ?_; rintro e wz ⟨vz, rfl, oz, cc⟩; obtain ⟨az, cz, rfl⟩ := oz.sl; have Bz := kept_next (V := z3) (by repeat (first | with_reducible assumption | with_reducible exact Below.refl _ _ | with_reducible refine Below.setCell ?_ (by first | omega | (simp; done) | (simp; omega)) _ | with_reducible refine Below.alloc ?_ (by first | omega | (simp; done) | (simp; omega)) _ | with_reducible refine Below.drew ?_)) cc; have zz := Bz.size; (first | have hA0 := A0.lt | skip); (first | have A0 := A0.below cc | have A0 := A0.drew.below cc | have A0 := At.born cc | have A0 := At.bornD cc | skip); (first | obtain ⟨jz0, jz1, jz2, jz3⟩ := A0.facts2 | skip); clear cc))
              all_goals (go_wp2_with fail; go_meet)
              all_goals exact (by first | with_reducible exact boxS_new (s := ⟨xst, xl⟩) oz (by first | omega | (simp; done) | (simp; omega)) Bz | exact boxS_old (s := ⟨xst, xl⟩) A0 (by first | omega | (simp; done) | (simp; omega)) oz (by first | omega | (simp; done) | (simp; omega)) (by first | exact hA0 | simp) Bz)
            case rest =>
              obtain ⟨BV, aV, cV, rfl, hBV, V0, oV, neV, c⟩ := hcut
              simp only at V0 oV neV
              replace H := H.below c
              replace oZ := oZ.below c
              replace Z0 := Z0.below c
              clear c hld hlh neV hBV KV KE HEN KH
              clear h h0 h1 hf
              obtain ⟨z4, hW⟩ : ∃ W, W = wc := ⟨_, rfl⟩
              rw [← hW]
              subst hW
              obtain ⟨n, n0, n1, nf⟩ := id H.n.facts2
              obtain ⟨x, x0, x1, xf⟩ := id H.x.facts2
              go_wp2_with fail
              refine (sameSurvey_any _ _ _ _ xst xst xl xl _ (by omega) (by omega) H.ln H.lx).mono ?_
              rintro e z5 ⟨rfl, c⟩
              rw [dec_yes rfl]
              replace oZ := oZ.below c
              replace Z0 := Z0.below c
              replace V0 := V0.below c
              replace oV := oV.below c
              replace H := H.below c
              clear c
              clear n n0 n1 nf
              clear x x0 x1 xf
              obtain ⟨z, z0, z1, zf⟩ := id Z0.facts2
              obtain ⟨s, s0, s1, sf⟩ := id H.s.facts2
              go_wp2_with fail
              refine (sameSurvey_any _ _ _ _ st st l l _ (by omega) (by omega) oZ.kr H.ls).mono ?_
              rintro e z6 ⟨rfl, c⟩
              rw [dec_yes rfl]
              replace V0 := V0.below c
              replace oV := oV.below c
              replace H := H.below c
              clear c
              clear z z0 z1 zf
              clear s s0 s1 sf
              obtain ⟨v, v0, v1, vf⟩ := id V0.facts2
              obtain ⟨x, x0, x1, xf⟩ := id H.x.facts2
              go_wp2_with fail
              refine (sameSurvey_any _ _ _ _ xst xst xl xl _ (by omega) (by omega) oV.kr H.lx).mono ?_
              rintro e z7 ⟨rfl, c⟩
              rw [dec_yes rfl]
              replace H := H.below c
              clear c
              clear v v0 v1 vf
              clear x x0 x1 xf
              go_wp2_with fail
              go_ret
              exact ⟨rfl, H.u⟩
        · have hT2 : True := trivial
          by_cases hce : cd = hh
          · subst hce
            have hk0 : Hid (k ≤ cd) := i6
            obtain ⟨s, s0, s1, sf⟩ := id H.s.facts2
            have hls := H.ls
            have hld := H.ld
            go_cut [18] (fun p18 wx => BoxS z2 ⟨hst2, hsl⟩ p18 wx)
            case first =>
              go_region_held3 (fun w' => Below z2.heap.size z2 w' ∧ ∀ b o, b < z2.heap.size → w'.cell? ⟨b, o, none⟩ = z2.cell? ⟨b, o, none⟩) (exact kept (by repeat (first | with_reducible assumption | with_reducible exact Below.refl _ _ | with_reducible refine Below.setCell ?_ (by first | omega | (simp; done) | (simp; omega)) _ | with_reducible refine Below.alloc ?_ (by first | omega | (simp; done) | (simp; omega)) _ | with_reducible refine Below.drew ?_)))
                (first
                | (go_at_call 25; refine (KH.out _ (hls.below (by repeat (first | with_reducible assumption | with_reducible exact Below.refl _ _ | with_reducible refine Below.setCell ?_ (by first | omega | (simp; done) | (simp; omega)) _ | with_reducible refine Below.alloc ?_ (by first | omega | (simp; done) | (simp; omega)) _ | with_reducible refine Below.drew ?_))) (hld.below (by repeat (first | with_reducible assumption | with_reducible exact Below.refl _ _ | with_reducible refine Below.setCell ?_ (by first | omega | (simp; done) | (simp; omega)) _ | with_reducible refine Below.alloc ?_ (by first | omega | (simp; done) | (simp; omega)) _ | with_reducible refine Below.drew ?_)))).mono ?_; rintro e wz ⟨vz, rfl, oz, cc⟩; obtain ⟨az, cz, rfl⟩ := oz.sl; have Bz := kept_next (V := z2) (by repeat (first | with_reducible assumption | with_reducible exact Below.refl _ _ | with_reducible refine Below.setCell ?_ (by first | omega | (simp; done) | (simp; omega)) _ | with_reducible refine Below.alloc ?_ (by first | omega | (simp; done) | (simp; omega)) _ | with_reducible refine Below.drew ?_)) cc; have zz := Bz.size; (first | have hA0 := A0.lt | skip); (first | have A0 := A0.below cc | have A0 := A0.drew.below cc | have A0 := At.born cc | have A0 := At.bornD cc | skip); (first | obtain ⟨jz0, jz1, jz2, jz3⟩ := A0.facts2 | skip); clear cc))
              all_goals (go_wp2_with fail; go_meet)
              all_goals exact (by first | with_reducible exact boxS_new (s := ⟨hst2, hsl⟩) oz (by first | omega | (simp; done) | (simp; omega)) Bz | exact boxS_old (s := ⟨hst2, hsl⟩) A0 (by first | omega | (simp; done) | (simp; omega)) oz (by first | omega | (simp; done) | (simp; omega)) (by first | exact hA0 | simp) Bz)
            case rest =>
              obtain ⟨BH, aH, cH, rfl, hBH, H18, oH, neH, c⟩ := hcut
              simp only at H18 oH neH
              replace H := H.below c
              replace oZ := oZ.below c
              replace Z0 := Z0.below c
              clear c hls hld neH hBH
              clear s s0 s1 sf
              obtain ⟨z3, hW⟩ : ∃ W, W = wc := ⟨_, rfl⟩
              rw [← hW]
              subst hW
              go_upto_region 23 with fail
              obtain ⟨h, h0, h1, hf⟩ := id H18.facts2
              have hld := H.ld
              have hlh := oH.kr
              go_cut [20] (fun p20 wx => BoxS z3 ⟨xst, xl⟩ p20 wx)
              case first =>
                go_region_held3 (fun w' => Below z3.heap.size z3 w' ∧ ∀ b o, b < z3.heap.size → w'.cell? ⟨b, o, none⟩ = z3.cell? ⟨b, o, none⟩) (exact kept (by repeat (first | with_reducible assumption | with_reducible exact Below.refl _ _ | with_reducible refine Below.setCell ?_ (by first | omega | (simp; done) | (simp; omega)) _ | with_reducible refine Below.alloc ?_ (by first | omega | (simp; done) | (simp; omega)) _ | with_reducible refine Below.drew ?_)))
                  (first
                  | (go_at_call 25; refine (KE.out hk0.out _ _ _ _ _ (hlh.below (by repeat (first | with_reducible assumption | with_reducible exact Below.refl _ _ | with_reducible refine Below.setCell ?_ (by first | omega | (simp; done) | (simp; omega)) _ | with_reducible refine Below.alloc ?_ (by first | omega | (simp; done) | (simp; omega)) _ | with_reducible refine Below.drew ?_)))).mono ?_; rintro e wz ⟨vz, rfl, oz, cc⟩; obtain ⟨az, cz, rfl⟩ := oz.sl; have Bz := kept_next (V := z3) (by repeat (first | with_reducible assumption | with_reducible exact Below.refl _ _ | with_reducible refine Below.setCell ?_ (by first | omega | (simp; done) | (simp; omega)) _ | with_reducible refine Below.alloc ?_ (by first | omega | (simp; done) | (simp; omega)) _ | with_reducible refine Below.drew ?_)) cc; have zz := Bz.size; (first | have hA0 := A0.lt | skip); (first | have A0 := A0.below cc | have A0 := A0.drew.below cc | have A0 := At.born cc | have A0 := At.bornD cc | skip); (first | obtain ⟨jz0, jz1, jz2, jz3⟩ := A0.facts2 | skip); clear cc))
                all_goals (go_wp2_with fail; go_meet)
                all_goals exact (by first | with_reducible exact boxS_new (s := ⟨xst, xl⟩) oz (by first | omega | (simp; done) | (simp; omega)) Bz | exact boxS_old (s := ⟨xst, xl⟩) A0 (by first | omega | (simp; done) | (simp; omega)) oz (by first | omega | (simp; done) | (simp; omega)) (by first | exact hA0 | simp) Bz)
              case rest =>
                obtain ⟨BV, aV, cV, rfl, hBV, V0, oV, neV, c⟩ := hcut
                simp only at V0 oV neV
                replace H := H.below c
                replace oZ := oZ.below c
                replace Z0 := Z0.below c
                clear c hld hlh neV hBV KV KE HEN KH
                clear h h0 h1 hf
                obtain ⟨z4, hW⟩ : ∃ W, W = wc := ⟨_, rfl⟩
                rw [← hW]
                subst hW
                obtain ⟨n, n0, n1, nf⟩ := id H.n.facts2
                obtain ⟨x, x0, x1, xf⟩ := id H.x.facts2
                go_wp2_with fail
                refine (sameSurvey_any _ _ _ _ xst xst xl xl _ (by omega) (by omega) H.ln H.lx).mono ?_
                rintro e z5 ⟨rfl, c⟩
                rw [dec_yes rfl]
                replace oZ := oZ.below c
                replace Z0 := Z0.below c
                replace V0 := V0.below c
                replace oV := oV.below c
                replace H := H.below c
                clear c
                clear n n0 n1 nf
                clear x x0 x1 xf
                obtain ⟨z, z0, z1, zf⟩ := id Z0.facts2
                obtain ⟨s, s0, s1, sf⟩ := id H.s.facts2
                go_wp2_with fail
                refine (sameSurvey_any _ _ _ _ st st l l _ (by omega) (by omega) oZ.kr H.ls).mono ?_
                rintro e z6 ⟨rfl, c⟩
                rw [dec_yes rfl]
                replace V0 := V0.below c
                replace oV := oV.below c
                replace H := H.below c
                clear c
                clear z z0 z1 zf
                clear s s0 s1 sf
                obtain ⟨v, v0, v1, vf⟩ := id V0.facts2
                obtain ⟨x, x0, x1, xf⟩ := id H.x.facts2
                go_wp2_with fail
                refine (sameSurvey_any _ _ _ _ xst xst xl xl _ (by omega) (by omega) oV.kr H.lx).mono ?_
                rintro e z7 ⟨rfl, c⟩
                rw [dec_yes rfl]
                replace H := H.below c
                clear c
                clear v v0 v1 vf
                clear x x0 x1 xf
                go_wp2_with fail
                go_ret
                exact ⟨rfl, H.u⟩
          · have hT : True := trivial
            obtain ⟨s, s0, s1, sf⟩ := id H.s.facts2
            have hls := H.ls
            have hld := H.ld
            go_cut [18] (fun p18 wx => BoxS z2 ⟨hst2, hsl⟩ p18 wx)
            case first =>
              go_region_held3 (fun w' => Below z2.heap.size z2 w' ∧ ∀ b o, b < z2.heap.size → w'.cell? ⟨b, o, none⟩ = z2.cell? ⟨b, o, none⟩) (exact kept (by repeat (first | with_reducible assumption | with_reducible exact Below.refl _ _ | with_reducible refine Below.setCell ?_ (by first | omega | (simp; done) | (simp; omega)) _ | with_reducible refine Below.alloc ?_ (by first | omega | (simp; done) | (simp; omega)) _ | with_reducible refine Below.drew ?_)))
                (first
                | (go_at_call 25; refine (KH.out _ (hls.below (by repeat (first | with_reducible assumption | with_reducible exact Below.refl _ _ | with_reducible refine Below.setCell ?_ (by first | omega | (simp; done) | (simp; omega)) _ | with_reducible refine Below.alloc ?_ (by first | omega | (simp; done) | (simp; omega)) _ | with_reducible refine Below.drew ?_))) (hld.below (by repeat (first | with_reducible assumption | with_reducible exact Below.refl _ _ | with_reducible refine Below.setCell ?_ (by first | omega | (simp; done) | (simp; omega)) _ | with_reducible refine Below.alloc ?_ (by first | omega | (simp; done) | (simp; omega)) _ | with_reducible refine Below.drew ?_)))).mono ?_; rintro e wz ⟨vz, rfl, oz, cc⟩; obtain ⟨az, cz, rfl⟩ := oz.sl; have Bz := kept_next (V := z2) (by repeat (first | with_reducible assumption | with_reducible exact Below.refl _ _ | with_reducible refine Below.setCell ?_ (by first | omega | (simp; done) | (simp; omega)) _ | with_reducible refine Below.alloc ?_ (by first | omega | (simp; done) | (simp; omega)) _ | with_reducible refine Below.drew ?_)) cc; have zz := Bz.size; (first | have hA0 := A0.lt | skip); (first | have A0 := A0.below cc | have A0 := A0.drew.below cc | have A0 := At.born cc | have A0 := At.bornD cc | skip); (first | obtain ⟨jz0, jz1, jz2, jz3⟩ := A0.facts2 | skip); clear cc))
              all_goals (go_wp2_with fail; go_meet)
              all_goals exact (by first | with_reducible exact boxS_new (s := ⟨hst2, hsl⟩) oz (by first | omega | (simp; done) | (simp; omega)) Bz | exact boxS_old (s := ⟨hst2, hsl⟩) A0 (by first | omega | (simp; done) | (simp; omega)) oz (by first | omega | (simp; done) | (simp; omega)) (by first | exact hA0 | simp) Bz)
            case rest =>
              obtain ⟨BH, aH, cH, rfl, hBH, H18, oH, neH, c⟩ := hcut
              simp only at H18 oH neH
              replace H := H.below c
              replace oZ := oZ.below c
              replace Z0 := Z0.below c
              clear c hls hld neH hBH
              clear s s0 s1 sf
              obtain ⟨z3, hW⟩ : ∃ W, W = wc := ⟨_, rfl⟩
              rw [← hW]
              subst hW
              go_upto_region 23 with fail
              obtain ⟨h, h0, h1, hf⟩ := id H18.facts2
              have hld := H.ld
              have hlh := oH.kr
              go_cut [20] (fun p20 wx => BoxS z3 ⟨xst, xl⟩ p20 wx)
              case first =>
                go_region_held3 (fun w' => Below z3.heap.size z3 w' ∧ ∀ b o, b < z3.heap.size → w'.cell? ⟨b, o, none⟩ = z3.cell? ⟨b, o, none⟩) (exact kept (by repeat (first | with_reducible assumption | with_reducible exact Below.refl _ _ | with_reducible refine Below.setCell ?_ (by first | omega | (simp; done) | (simp; omega)) _ | with_reducible refine Below.alloc ?_ (by first | omega | (simp; done) | (simp; omega)) _ | with_reducible refine Below.drew ?_)))
                  (first
                  | (go_at_call 25; refine (KV.out _ _ _ _ _ (hlh.below (by repeat (first | with_reducible assumption | with_reducible exact Below.refl _ _ | with_reducible refine Below.setCell ?_ (by first | omega | (simp; done) | (simp; omega)) _ | with_reducible refine Below.alloc ?_ (by first | omega | (simp; done) | (simp; omega)) _ | with_reducible refine Below.drew ?_))) (KRd.drop (KRd.take (hld.below (by repeat (first | with_reducible assumption | with_reducible exact Below.refl _ _ | with_reducible refine Below.setCell ?_ (by first | omega | (simp; done) | (simp; omega)) _ | with_reducible refine Below.alloc ?_ (by first | omega | (simp; done) | (simp; omega)) _ | with_reducible refine Below.drew ?_))) k) hh)).mono ?_; rintro e wz ⟨vz, rfl, oz, cc⟩; obtain ⟨az, cz, rfl⟩ := oz.sl; have Bz := kept_next (V := z3) (by repeat (first | with_reducible assumption | with_reducible exact Below.refl _ _ | with_reducible refine Below.setCell ?_ (by first | omega | (simp; done) | (simp; omega)) _ | with_reducible refine Below.alloc ?_ (by first | omega | (simp; done) | (simp; omega)) _ | with_reducible refine Below.drew ?_)) cc; have zz := Bz.size; (first | have hA0 := A0.lt | skip); (first | have A0 := A0.below cc | have A0 := A0.drew.below cc | have A0 := At.born cc | have A0 := At.bornD cc | skip); (first | obtain ⟨jz0, jz1, jz2, jz3⟩ := A0.facts2 | skip); clear cc))
                all_goals (go_wp2_with fail; go_meet)
                all_goals exact (by first | with_reducible exact boxS_new (s := ⟨xst, xl⟩) oz (by first | omega | (simp; done) | (simp; omega)) Bz | exact boxS_old (s := ⟨xst, xl⟩) A0 (by first | omega | (simp; done) | (simp; omega)) oz (by first | omega | (simp; done) | (simp; omega)) (by first | exact hA0 | simp) Bz)
              case rest =>
                obtain ⟨BV, aV, cV, rfl, hBV, V0, oV, neV, c⟩ := hcut
                simp only at V0 oV neV
                replace H := H.below c
                replace oZ := oZ.below c
                replace Z0 := Z0.below c
                clear c hld hlh neV hBV KV KE HEN KH
                clear h h0 h1 hf
                obtain ⟨z4, hW⟩ : ∃ W, W = wc := ⟨_, rfl⟩
                rw [← hW]
                subst hW
                obtain ⟨n, n0, n1, nf⟩ := id H.n.facts2
                obtain ⟨x, x0, x1, xf⟩ := id H.x.facts2
                go_wp2_with fail
                refine (sameSurvey_any _ _ _ _ xst xst xl xl _ (by omega) (by omega) H.ln H.lx).mono ?_
                rintro e z5 ⟨rfl, c⟩
                rw [dec_yes rfl]
                replace oZ := oZ.below c
                replace Z0 := Z0.below c
                replace V0 := V0.below c
                replace oV := oV.below c
                replace H := H.below c
                clear c
                clear n n0 n1 nf
                clear x x0 x1 xf
                obtain ⟨z, z0, z1, zf⟩ := id Z0.facts2
                obtain ⟨s, s0, s1, sf⟩ := id H.s.facts2
                go_wp2_with fail
                refine (sameSurvey_any _ _ _ _ st st l l _ (by omega) (by omega) oZ.kr H.ls).mono ?_
                rintro e z6 ⟨rfl, c⟩
                rw [dec_yes rfl]
                replace V0 := V0.below c
                replace oV := oV.below c
                replace H := H.below c
                clear c
                clear z z0 z1 zf
                clear s s0 s1 sf
                obtain ⟨v, v0, v1, vf⟩ := id V0.facts2
                obtain ⟨x, x0, x1, xf⟩ := id H.x.facts2
                go_wp2_with fail
                refine (sameSurvey_any _ _ _ _ xst xst xl xl _ (by omega) (by omega) oV.kr H.lx).mono ?_
                rintro e z7 ⟨rfl, c⟩
                rw [dec_yes rfl]
                replace H := H.below c
                clear c
                clear v v0 v1 vf
                clear x x0 x1 xf
                go_wp2_with fail
                go_ret
                exact ⟨rfl, H.u⟩
end Go.Proofs.YtdgnndlhnblenaaDoor
