/- Walks: impl.BookValid, spec.BookValid. -/
import Derived.Test.YtgggbapcpjfljaaDoorG21
import Derived.Test.YtgggbapcpjfljaaDoorG22
namespace Go.Proofs.YtgggbapcpjfljaaDoor
open Go Go.RowKit Go.Sort

theorem concatDdsN_any (L : Nat) (a1 a2 : Option Addr) (c1 c2 n1 n2 : Nat) (l m z : List Dd) (w : World) (e1 : l.length = n1) (e2 : m.length = n2) (ez : l ++ m = z) (hl : n1 ≤ 1048576) (hm : n2 ≤ 1048576) (hL : At w L [.slice a1 n1 c1, .slice a2 n2 c2]) (h1 : Dds w a1 l) (h2 : Dds w a2 m) :
    Calls Tryd.prog 68 #[.slice (some ⟨L, 0, none⟩) 2 2] w fun e w' => ∃ v, e = .returned v ∧ OwnD w' w.heap.size v z ∧ Below w.heap.size w w' := by
  subst e1 e2 ez
  exact concatDds_any L a1 a2 c1 c2 l m w hl hm hL h1 h2

theorem bkOk_bad {st : Int} {l : List Lg} {d u : List Dd} (h : svOk ⟨st, l⟩ = false) : bkOk ⟨⟨st, l⟩, d, u⟩ = false := by simp [bkOk, h]
theorem bkOk_long {st : Int} {l : List Lg} {d u : List Dd} (h : 40 < d.length + u.length) : bkOk ⟨⟨st, l⟩, d, u⟩ = false := by simp [bkOk, h]
theorem bkOk_else {st : Int} {l : List Lg} {d u : List Dd} (h : svOk ⟨st, l⟩ = true) (h2 : ¬ 40 < d.length + u.length) : bkOk ⟨⟨st, l⟩, d, u⟩ = decide ((ddRun ⟨st, l⟩ (d ++ u.reverse)).2 = d.length + u.length) := by simp [bkOk, h, h2]

theorem bookValid_bad (a1 a2 a3 : Option Addr) (c1 c2 c3 : Nat) (st : Int) (l : List Lg) (d u : List Dd) (w : World) (hl : l.length ≤ 1048576) (hs : RdB w a1 a2 a3 ⟨⟨st, l⟩, d, u⟩) (hv : svOk ⟨st, l⟩ = false) :
    Calls Tryd.prog 46 #[.agg #[.int .i64 st, .slice a1 l.length c1, .slice a2 d.length c2, .slice a3 u.length c3]] w fun e w' => e = .returned (.bool (bkOk ⟨⟨st, l⟩, d, u⟩)) ∧ Below w.heap.size w w' := by
  rw [bkOk_bad hv]
  go_enter Tryd.func46, Tryd.ntmps46
  go_wp2_with (go_at_call 41; refine (surveyValid_any _ _ st l _ hl (hs.l.below (by repeat (first | with_reducible assumption | exact Below.refl _ _ | refine below_drewN ?_ _ | refine Below.drew ?_ | refine Below.alloc ?_ (by first | omega | (simp; done) | (simp; omega)) _ | refine Below.setCell ?_ (by first | omega | (simp; done) | (simp; omega)) _)))).mono ?_; rintro e w1 ⟨rfl, b1⟩; rw [hv]; obtain ⟨hc, hf⟩ := bcell b1)
  go_ret
  exact ⟨rfl, (by repeat (first | with_reducible assumption | with_reducible exact Below.refl _ _ | refine Below.setCell ?_ (by first | omega | (simp; done) | (simp; omega)) _ | refine Below.alloc ?_ (by first | omega | (simp; done) | (simp; omega)) _ | with_reducible exact Below.trans (Below.refl _ _) b1 | refine Below.trans ?_ (Below.mono b1 (by first | omega | (simp; done) | (simp; omega))) | refine below_drewN ?_ _ | refine Below.drew ?_))⟩

set_option maxHeartbeats 1000000 in
theorem bookValid_ok (a1 a2 a3 : Option Addr) (c1 c2 c3 : Nat) (st : Int) (l : List Lg) (d u : List Dd) (w : World) (hl : l.length ≤ 1048576) (hd : d.length ≤ 1048576) (hu : u.length ≤ 1048576) (hs : RdB w a1 a2 a3 ⟨⟨st, l⟩, d, u⟩) (hv : svOk ⟨st, l⟩ = true) :
    Calls Tryd.prog 46 #[.agg #[.int .i64 st, .slice a1 l.length c1, .slice a2 d.length c2, .slice a3 u.length c3]] w fun e w' => e = .returned (.bool (bkOk ⟨⟨st, l⟩, d, u⟩)) ∧ Below w.heap.size w w' := by
  obtain ⟨X, hX⟩ : ∃ X, w.heap.size = X := ⟨_, rfl⟩
  obtain ⟨W1, hW1⟩ : ∃ W1, W1 = w.alloc (.cells #[.int .i64 st, .slice a1 l.length c1, .slice a2 d.length c2, .slice a3 u.length c3] 50) := ⟨_, rfl⟩
  have G : At W1 X [.int .i64 st, .slice a1 l.length c1, .slice a2 d.length c2, .slice a3 u.length c3] := by rw [hW1]; exact At.new _ _ _ hX.symm rfl
  have b0 : Below w.heap.size w W1 := by rw [hW1]; exact (by repeat (first | with_reducible assumption | exact Below.refl _ _ | refine below_drewN ?_ _ | refine Below.drew ?_ | refine Below.alloc ?_ (by first | omega | (simp; done) | (simp; omega)) _ | refine Below.setCell ?_ (by first | omega | (simp; done) | (simp; omega)) _))
  by_cases h40 : 40 < d.length + u.length
  · rw [bkOk_long h40]
    have h41 : decide (40 < (d.length : Int) + (u.length : Int)) = true := by simp; omega
    go_enter Tryd.func46, Tryd.ntmps46
    go_wp2_with fail
    rw [← hW1]
    clear hW1
    refine (surveyValid_any _ _ st l _ hl (hs.l.below b0)).mono ?_
    rintro e w1 ⟨rfl, k1⟩
    rw [hv]
    replace G := G.below k1
    replace b0 := b0.trans (k1.mono b0.size)
    clear k1
    obtain ⟨s0, s1, s2, s3, s4, -⟩ := G.facts4
    go_wp2_with fail
    go_ret
    exact ⟨rfl, b0⟩
  · rw [bkOk_else hv h40]
    have h41 : decide (40 < (d.length : Int) + (u.length : Int)) = false := by simp; omega
    obtain ⟨ds, hds⟩ : ∃ ds, d ++ u.reverse = ds := ⟨_, rfl⟩
    have hdl : ds.length = d.length + u.length := by rw [← hds]; simp
    rw [hds]
    obtain ⟨⟨⟨rst, rl⟩, many⟩, hR⟩ : ∃ p, ddRun ⟨st, l⟩ ds = p := ⟨_, rfl⟩
    have K := fun (a : Option Addr) (c : Nat) (w' : World) (h1 : Legs w' a1 l) (h2 : Dds w' a ds) => deedsRun_any a1 c1 st l a c ds w' hl (by omega) h1 h2
    rw [hR] at K ⊢
    have HK := Lib.hid K
    have HDS := Lib.hid hds
    have HDL := Lib.hid hdl
    have hdsl : ds.length ≤ 1048576 := by omega
    have hrl : u.reverse.length = u.length := List.length_reverse
    have HRL := Lib.hid hrl
    rw [← hdl]
    clear K hR hds hdl hrl
    go_enter Tryd.func46, Tryd.ntmps46
    go_wp2_with fail
    rw [← hW1]
    clear hW1
    refine (surveyValid_any _ _ st l _ hl (hs.l.below b0)).mono ?_
    rintro e w1 ⟨rfl, k1⟩
    rw [hv]
    replace G := G.below k1
    replace b0 := b0.trans (k1.mono b0.size)
    clear k1
    obtain ⟨s0, s1, s2, s3, s4, -⟩ := G.facts4
    go_wp2_with fail
    refine (cloneDds_any _ _ u _ hu (hs.u.below b0)).mono ?_
    rintro e w2 ⟨v2, rfl, o2, k2⟩
    obtain ⟨av2, cv2, rfl⟩ := o2.sl
    replace G := G.below k2
    clear s1 s2 s3 s4
    go_wp2_with fail
    refine (revDds_any _ _ _ u _ hu o2).mono ?_
    rintro e w3 ⟨rfl, o3, r3⟩
    have k3 : Below w1.heap.size w2 w3 := r3.below k2.size fun j hj => (o2.lt hj).1
    replace G := G.belowB k3 s0
    replace b0 := b0.trans ((k2.mono b0.size).trans (k3.mono b0.size))
    clear r3 k2 k3 o2 s0
    obtain ⟨s0, s1, s2, s3, s4, -⟩ := G.facts4
    go_wp2_with fail
    obtain ⟨L, hL⟩ : ∃ L, w3.heap.size = L := ⟨_, rfl⟩
    have AL := fun (T : TypeId) => At.new (X := L) w3 #[.slice a2 d.length c2, .slice av2 u.length cv2] T hL.symm rfl
    rw [hL]
    refine (concatDdsN_any L _ _ _ _ _ _ d u.reverse ds _ rfl HRL.out HDS.out hd hu (AL _) (hs.d.below (b0.alloc b0.size _)) (o3.alloc _).kr).mono ?_
    rintro e w4 ⟨v4, rfl, o4, k4⟩
    obtain ⟨av4, cv4, rfl⟩ := o4.sl
    replace G := (G.alloc _).below k4
    replace b0 := (b0.alloc b0.size _).trans (k4.mono (by have := b0.size; simp; omega))
    clear k4 AL s0 s1 s2 s3 s4 o3 hL
    obtain ⟨s0, s1, s2, s3, s4, -⟩ := G.facts4
    go_wp2_with fail
    refine (HK.out _ _ _ (hs.l.below b0) o4.kr).mono ?_
    rintro e w5 ⟨v5, rfl, o5, k5⟩
    obtain ⟨av5, cv5, rfl⟩ := o5.sl
    replace b0 := b0.trans (k5.mono b0.size)
    simp only
    go_wp2_with fail
    go_ret
    refine ⟨congrArg (fun b => Ending.returned (Value.bool b)) (show ((many : Int) == (ds.length : Int)) = decide (many = ds.length) from ?_), by rw [← hX]; exact b0.alloc b0.size _⟩
    rw [Bool.eq_iff_iff]
    simp
    try omega
theorem bookValid_any (a1 a2 a3 : Option Addr) (c1 c2 c3 : Nat) (st : Int) (l : List Lg) (d u : List Dd) (w : World) (hl : l.length ≤ 1048576) (hd : d.length ≤ 1048576) (hu : u.length ≤ 1048576) (hs : RdB w a1 a2 a3 ⟨⟨st, l⟩, d, u⟩) :
    Calls Tryd.prog 46 #[.agg #[.int .i64 st, .slice a1 l.length c1, .slice a2 d.length c2, .slice a3 u.length c3]] w fun e w' => e = .returned (.bool (bkOk ⟨⟨st, l⟩, d, u⟩)) ∧ Below w.heap.size w w' := by
  cases hv : svOk ⟨st, l⟩
  · exact bookValid_bad a1 a2 a3 c1 c2 c3 st l d u w hl hs hv
  · exact bookValid_ok a1 a2 a3 c1 c2 c3 st l d u w hl hd hu hs hv

/-! ### the reference -/
theorem sbookValid_bad (a1 a2 a3 : Option Addr) (c1 c2 c3 : Nat) (st : Int) (l : List Lg) (d u : List Dd) (w : World) (hl : l.length ≤ 1048576) (hs : RdB w a1 a2 a3 ⟨⟨st, l⟩, d, u⟩) (hv : svOk ⟨st, l⟩ = false) :
    Calls Tryd.prog 44 #[.agg #[.int .i64 st, .slice a1 l.length c1, .slice a2 d.length c2, .slice a3 u.length c3]] w fun e w' => e = .returned (.bool (bkOk ⟨⟨st, l⟩, d, u⟩)) ∧ Below w.heap.size w w' := by
  rw [bkOk_bad hv]
  go_enter Tryd.func44, Tryd.ntmps44
  go_wp2_with (go_at_call 39; refine (ssurveyValid_any _ _ st l _ hl (hs.l.below (by repeat (first | with_reducible assumption | exact Below.refl _ _ | refine below_drewN ?_ _ | refine Below.drew ?_ | refine Below.alloc ?_ (by first | omega | (simp; done) | (simp; omega)) _ | refine Below.setCell ?_ (by first | omega | (simp; done) | (simp; omega)) _)))).mono ?_; rintro e w1 ⟨rfl, b1⟩; rw [hv]; obtain ⟨hc, hf⟩ := bcell b1)
  go_ret
  exact ⟨rfl, (by repeat (first | with_reducible assumption | with_reducible exact Below.refl _ _ | refine Below.setCell ?_ (by first | omega | (simp; done) | (simp; omega)) _ | refine Below.alloc ?_ (by first | omega | (simp; done) | (simp; omega)) _ | with_reducible exact Below.trans (Below.refl _ _) b1 | refine Below.trans ?_ (Below.mono b1 (by first | omega | (simp; done) | (simp; omega))) | refine below_drewN ?_ _ | refine Below.drew ?_))⟩

set_option maxHeartbeats 1000000 in
theorem sbookValid_ok (a1 a2 a3 : Option Addr) (c1 c2 c3 : Nat) (st : Int) (l : List Lg) (d u : List Dd) (w : World) (hl : l.length ≤ 1048576) (hd : d.length ≤ 1048576) (hu : u.length ≤ 1048576) (hs : RdB w a1 a2 a3 ⟨⟨st, l⟩, d, u⟩) (hv : svOk ⟨st, l⟩ = true) :
    Calls Tryd.prog 44 #[.agg #[.int .i64 st, .slice a1 l.length c1, .slice a2 d.length c2, .slice a3 u.length c3]] w fun e w' => e = .returned (.bool (bkOk ⟨⟨st, l⟩, d, u⟩)) ∧ Below w.heap.size w w' := by
  obtain ⟨X, hX⟩ : ∃ X, w.heap.size = X := ⟨_, rfl⟩
  obtain ⟨W1, hW1⟩ : ∃ W1, W1 = w.alloc (.cells #[.int .i64 st, .slice a1 l.length c1, .slice a2 d.length c2, .slice a3 u.length c3] 50) := ⟨_, rfl⟩
  have G : At W1 X [.int .i64 st, .slice a1 l.length c1, .slice a2 d.length c2, .slice a3 u.length c3] := by rw [hW1]; exact At.new _ _ _ hX.symm rfl
  have b0 : Below w.heap.size w W1 := by rw [hW1]; exact (by repeat (first | with_reducible assumption | exact Below.refl _ _ | refine below_drewN ?_ _ | refine Below.drew ?_ | refine Below.alloc ?_ (by first | omega | (simp; done) | (simp; omega)) _ | refine Below.setCell ?_ (by first | omega | (simp; done) | (simp; omega)) _))
  by_cases h40 : 40 < d.length + u.length
  · rw [bkOk_long h40]
    have h41 : decide (40 < (d.length : Int) + (u.length : Int)) = true := by simp; omega
    go_enter Tryd.func44, Tryd.ntmps44
    go_wp2_with fail
    rw [← hW1]
    clear hW1
    refine (ssurveyValid_any _ _ st l _ hl (hs.l.below b0)).mono ?_
    rintro e w1 ⟨rfl, k1⟩
    rw [hv]
    replace G := G.below k1
    replace b0 := b0.trans (k1.mono b0.size)
    clear k1
    obtain ⟨s0, s1, s2, s3, s4, -⟩ := G.facts4
    go_wp2_with fail
    go_ret
    exact ⟨rfl, b0⟩
  · rw [bkOk_else hv h40]
    have h41 : decide (40 < (d.length : Int) + (u.length : Int)) = false := by simp; omega
    obtain ⟨⟨⟨rst, rl⟩, many⟩, hR⟩ : ∃ p, ddRun ⟨st, l⟩ d = p := ⟨_, rfl⟩
    obtain ⟨⟨⟨qst, ql⟩, more⟩, hQ⟩ : ∃ p, ddRun ⟨rst, rl⟩ u.reverse = p := ⟨_, rfl⟩
    have hfin : decide ((ddRun ⟨st, l⟩ (d ++ u.reverse)).2 = d.length + u.length) = ((many : Int) == (d.length : Int) && (more : Int) == (u.length : Int)) := by
      have e1 : runFrom ⟨st, l⟩ d = (⟨rst, rl⟩, many) := by rw [← ddRun_ok hv]; exact hR
      have v1 : svOk ⟨rst, rl⟩ = true := by have := runFrom_valid d ⟨st, l⟩ hv; rw [e1] at this; exact this
      have e2 : runFrom ⟨rst, rl⟩ u.reverse = (⟨qst, ql⟩, more) := by rw [← ddRun_ok v1]; exact hQ
      have l1 := runFrom_le d ⟨st, l⟩
      have l2 := runFrom_le u.reverse ⟨rst, rl⟩
      rw [e1] at l1
      rw [e2] at l2
      simp only [List.length_reverse] at l1 l2
      rw [ddRun_ok hv, Bool.eq_iff_iff]
      by_cases hm : many = d.length
      · rw [runFrom_append _ _ _ (by rw [e1]; exact hm), e1, e2]
        simp; omega
      · rw [runFrom_append_short _ _ _ (by rw [e1]; simp only; omega), e1]
        simp; omega
    have K := fun (w' : World) (h1 : Legs w' a1 l) (h2 : Dds w' a2 d) => sdeedsRun_any a1 c1 st l a2 c2 d w' hl hd h1 h2
    have Q := fun (a : Option Addr) (c : Nat) (a' : Option Addr) (c' : Nat) (w' : World) (h0 : rl.length ≤ 1048576) (h1 : Legs w' a rl) (h2 : Dds w' a' u.reverse) => sdeedsRun_any a c rst rl a' c' u.reverse w' h0 (by simp; omega) h1 h2
    have hrl : rl.length ≤ 9 := by have := ddRun_len ⟨st, l⟩ d; rw [hR] at this; exact this
    rw [hR] at K
    rw [hQ] at Q
    rw [hfin]
    obtain ⟨ur, hur⟩ : ∃ ur, u.reverse = ur := ⟨_, rfl⟩
    have hul : ur.length = u.length := by rw [← hur]; simp
    rw [hur] at Q
    have HK := Lib.hid K
    have HQ := Lib.hid Q
    have HUL := Lib.hid hul
    have HUR := Lib.hid hur
    clear K Q hR hQ hfin hur hul
    go_enter Tryd.func44, Tryd.ntmps44
    go_wp2_with fail
    rw [← hW1]
    clear hW1
    refine (ssurveyValid_any _ _ st l _ hl (hs.l.below b0)).mono ?_
    rintro e w1 ⟨rfl, k1⟩
    rw [hv]
    replace G := G.below k1
    replace b0 := b0.trans (k1.mono b0.size)
    clear k1
    obtain ⟨s0, s1, s2, s3, s4, -⟩ := G.facts4
    go_wp2_with fail
    refine (HK.out _ (hs.l.below b0) (hs.d.below b0)).mono ?_
    rintro e w2 ⟨v2, rfl, o2, k2⟩
    obtain ⟨av2, cv2, rfl⟩ := o2.sl
    replace G := G.below k2
    replace b0 := b0.trans (k2.mono b0.size)
    simp only
    clear s0 s1 s2 s3 s4 k2
    go_upto_region 4 with fail
    obtain ⟨Y, hY⟩ : ∃ Y, w2.heap.size = Y := ⟨_, rfl⟩
    obtain ⟨V, hV⟩ : ∃ V, V = w2.alloc (.cells #[.int .i64 rst, .slice av2 rl.length cv2] 39) := ⟨_, rfl⟩
    have c : Below w2.heap.size w2 V := by rw [hV]; exact (by repeat (first | with_reducible assumption | exact Below.refl _ _ | refine below_drewN ?_ _ | refine Below.drew ?_ | refine Below.alloc ?_ (by first | omega | (simp; done) | (simp; omega)) _ | refine Below.setCell ?_ (by first | omega | (simp; done) | (simp; omega)) _))
    have AY : At V Y [.int .i64 rst, .slice av2 rl.length cv2] := by rw [hV]; exact At.new _ _ _ hY.symm rfl
    rw [hY, ← hV]
    replace G := G.below c
    replace o2 := o2.below c
    replace b0 := b0.trans (c.mono b0.size)
    clear c hV hY
    obtain ⟨s0, s1, s2, s3, s4, -⟩ := G.facts4
    obtain ⟨t0, t1, t2, -⟩ := AY.facts2
    have hr := o2.kr
    have hu2 := hs.u.below b0
    go_cut [5, 6] (fun p5 p6 wx => p6 = .int .i64 (more : Int) ∧ BoxS V ⟨qst, ql⟩ p5 wx)
    case first =>
      go_region_held3 (fun w' => Below V.heap.size V w' ∧ ∀ b o, b < V.heap.size → w'.cell? ⟨b, o, none⟩ = V.cell? ⟨b, o, none⟩) (exact kept (by repeat (first | with_reducible assumption | with_reducible exact Below.refl _ _ | with_reducible refine Below.setCell ?_ (by first | omega | (simp; done) | (simp; omega)) _ | with_reducible refine Below.alloc ?_ (by first | omega | (simp; done) | (simp; omega)) _ | with_reducible refine Below.drew ?_)))
        (first
        | (go_at_call 65; refine (l7Turned_any _ _ u _ hu (hu2.below (by repeat (first | with_reducible assumption | with_reducible exact Below.refl _ _ | with_reducible refine Below.setCell ?_ (by first | omega | (simp; done) | (simp; omega)) _ | with_reducible refine Below.alloc ?_ (by first | omega | (simp; done) | (simp; omega)) _ | with_reducible refine Below.drew ?_)))).mono ?_; rintro e wy ⟨vy, rfl, oy, c⟩; rw [HUR.out] at oy; obtain ⟨ay, cy, rfl⟩ := oy.sl; have By := kept_next (V := V) (by repeat (first | with_reducible assumption | with_reducible exact Below.refl _ _ | with_reducible refine Below.setCell ?_ (by first | omega | (simp; done) | (simp; omega)) _ | with_reducible refine Below.alloc ?_ (by first | omega | (simp; done) | (simp; omega)) _ | with_reducible refine Below.drew ?_)) c; have zy := By.size; (first | have hA0 := A0.lt | skip); (first | have A0 := A0.below c | have A0 := A0.drew.below c | have A0 := At.born c | have A0 := At.bornD c | skip); (first | obtain ⟨j0, j1, j2, j3⟩ := A0.facts2 | skip); clear c)
        | (go_at_call 64; refine (HQ.out _ _ _ _ _ (by omega) (hr.below (by repeat (first | with_reducible assumption | with_reducible exact Below.refl _ _ | with_reducible refine Below.setCell ?_ (by first | omega | (simp; done) | (simp; omega)) _ | with_reducible refine Below.alloc ?_ (by first | omega | (simp; done) | (simp; omega)) _ | with_reducible refine Below.drew ?_))) (by first | exact oy.kr | exact (oy.alloc _).kr)).mono ?_; rintro e wz ⟨vz, rfl, oz, c⟩; obtain ⟨az, cz, rfl⟩ := oz.sl; have Bz := kept_next (V := V) (by repeat (first | with_reducible assumption | with_reducible exact Below.refl _ _ | with_reducible refine Below.setCell ?_ (by first | omega | (simp; done) | (simp; omega)) _ | with_reducible refine Below.alloc ?_ (by first | omega | (simp; done) | (simp; omega)) _ | with_reducible refine Below.drew ?_)) c; have zz := Bz.size; (first | have hA0 := A0.lt | skip); (first | have A0 := A0.below c | have A0 := A0.drew.below c | have A0 := At.born c | have A0 := At.bornD c | skip); (first | obtain ⟨q0, q1, q2, q3⟩ := A0.facts2 | skip); clear c))
      all_goals (go_wp2_with fail; go_meet)
      all_goals exact ⟨rfl, (by first | with_reducible exact boxS_new (s := ⟨qst, ql⟩) oz (by first | omega | (simp; done) | (simp; omega)) Bz | exact boxS_old (s := ⟨qst, ql⟩) A0 (by first | omega | (simp; done) | (simp; omega)) oz (by first | omega | (simp; done) | (simp; omega)) (by first | exact hA0 | simp) Bz)⟩
    case rest =>
      obtain ⟨rfl, B, a, c, rfl, hB, AB, oB, ne, bb⟩ := hcut
      replace G := G.below bb
      replace b0 := b0.trans (bb.mono b0.size)
      clear s0 s1 s2 s3 s4 t0 t1 t2 hr hu2 bb AB oB ne hB
      obtain ⟨s0, s1, s2, s3, s4, -⟩ := G.facts4
      go_wp2_with fail
      all_goals
        go_ret
        refine ⟨?_, by rw [← hX]; exact b0⟩
        first
        | exact congrArg (fun b => Ending.returned (Value.bool b)) (show ((more : Int) == (u.length : Int)) = _ from rfl)
        | exact congrArg (fun b => Ending.returned (Value.bool b)) (show false = ((many : Int) == (d.length : Int) && (more : Int) == (u.length : Int)) from by simp_all)
theorem sbookValid_any (a1 a2 a3 : Option Addr) (c1 c2 c3 : Nat) (st : Int) (l : List Lg) (d u : List Dd) (w : World) (hl : l.length ≤ 1048576) (hd : d.length ≤ 1048576) (hu : u.length ≤ 1048576) (hs : RdB w a1 a2 a3 ⟨⟨st, l⟩, d, u⟩) :
    Calls Tryd.prog 44 #[.agg #[.int .i64 st, .slice a1 l.length c1, .slice a2 d.length c2, .slice a3 u.length c3]] w fun e w' => e = .returned (.bool (bkOk ⟨⟨st, l⟩, d, u⟩)) ∧ Below w.heap.size w w' := by
  cases hv : svOk ⟨st, l⟩
  · exact sbookValid_bad a1 a2 a3 c1 c2 c3 st l d u w hl hs hv
  · exact sbookValid_ok a1 a2 a3 c1 c2 c3 st l d u w hl hd hu hs hv
end Go.Proofs.YtgggbapcpjfljaaDoor
