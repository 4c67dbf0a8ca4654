/- The law FnReadBook, walked: wherever a book is cut, a survey of before is found (written by wip/bin/gen_vb14.py). -/
import Derived.Test.YtcilgpmeliegoaaGreatDoorDR13
import Derived.Test.YtcilgpmeliegoaaGreatDoorT1
import Derived.Test.YtcilgpmeliegoaaGreatDoorB3
import Derived.Test.YtcilgpmeliegoaaGreatDoorB1
set_option linter.unusedSimpArgs false
set_option linter.unusedVariables false
namespace Go.Proofs.YtcilgpmeliegoaaGreatDoor
open Go Go.RowKit Go.Sort

theorem rdBk_small {s : ByteArray} {b : Bk} {n : Nat} {ok : Bool} (h : rdBk s = ((b, n), ok)) : b.first.legs.length ≤ 9 ∧ b.done.length ≤ 40 ∧ b.undone = [] := by
  unfold rdBk at h
  have h1 := rdSvD_lenT (nth (cutB 10 s) 0)
  have h2 := rdDs_len 40 (rdSvD (nth (cutB 10 s) 0)).1 (cutB 10 s).tail.dropLast
  split at h
  · simp only [Prod.mk.injEq] at h
    obtain ⟨⟨rfl, -⟩, -⟩ := h
    exact ⟨h1, h2, rfl⟩
  · simp only [Prod.mk.injEq] at h
    obtain ⟨⟨rfl, -⟩, -⟩ := h
    exact ⟨by simp [zeroSv], by simp, rfl⟩
set_option maxRecDepth 100000 in
theorem noBook_zero (a1 a2 a3 : Option Addr) (c1 c2 c3 : Nat) (w : World) :
    Calls Tryz.prog 14 #[.agg #[.int .i64 0, .slice a1 0 c1, .slice a2 0 c2, .slice a3 0 c3]] w fun e w' => e = .returned (.bool true) ∧ Below w.heap.size w w' := by
  go_enter Tryz.func14, Tryz.ntmps14
  go_wp2_with fail
  refine (sameBook_any a1 a2 a3 none none none c1 c2 c3 0 0 0 0 0 [] [] [] [] [] [] _ (by simp) (by simp) (by simp) (by simp) (by simp) (by simp) ⟨.inl rfl, .inl rfl, .inl rfl⟩ ⟨.inl rfl, .inl rfl, .inl rfl⟩).mono ?_
  rintro e w1 ⟨rfl, c⟩
  rw [dec_yes rfl]
  go_wp2_with fail
  go_ret
  exact ⟨rfl, Below.trans (by exact (by repeat (first | with_reducible assumption | with_reducible exact Below.refl _ _ | with_reducible refine Below.setCell ?_ (by first | omega | (simp; done) | (simp; omega)) _ | with_reducible refine Below.alloc ?_ (by first | omega | (simp; done) | (simp; omega)) _ | with_reducible refine Below.drew ?_))) (Below.mono c (by simp))⟩
/-- what stays while beginnings of a text are read -/
structure RkLp (w : World) (BS : Nat) (st : Int) (l : List Lg) (d : List Dd) (a1 a2 a3 : Option Addr) (c1 c2 c3 : Nat) (wr : World) : Prop where
  lb : Lby wr
  hs : RdB wr a1 a2 a3 ⟨⟨st, l⟩, d, []⟩
  s : At wr BS [.int .i64 st, .slice a1 l.length c1, .slice a2 d.length c2, .slice a3 0 c3]
  u : Below w.heap.size w wr
theorem RkLp.below {w wr w2 : World} {BS : Nat} {st : Int} {l : List Lg} {d : List Dd} {a1 a2 a3 : Option Addr} {c1 c2 c3 : Nat} (h : RkLp w BS st l d a1 a2 a3 c1 c2 c3 wr) (c : Below wr.heap.size wr w2) : RkLp w BS st l d a1 a2 a3 c1 c2 c3 w2 :=
  ⟨h.lb.below c, h.hs.below c, h.s.below c, h.u.trans (c.mono h.u.size)⟩
theorem at_line {u : ByteArray} {f r : List UInt8} (h : u.data.toList = f ++ 10 :: r) : f.length < u.size ∧ (∀ (k : Nat) (hk : k < u.size), k < f.length → u[k] ∈ f) ∧ ∀ (hk : f.length < u.size), u[f.length] = 10 := by
  have hz : u.size = u.data.toList.length := rfl
  have h0 : f.length < u.size := by rw [hz, h]; simp
  have hget : ∀ (k : Nat) (hk : k < u.size), u.data.toList[k]? = some u[k] := fun k hk => by rw [List.getElem?_eq_getElem (by omega)]; rfl
  refine ⟨h0, fun k hk hf => ?_, fun hk => ?_⟩
  · have := hget k hk
    rw [h, List.getElem?_append_left hf] at this
    exact List.mem_of_getElem? this
  · have := hget _ hk
    rw [h] at this
    simpa using this.symm

set_option maxRecDepth 100000 in
set_option maxHeartbeats 4000000 in
theorem lawReadBook (a : Option Addr) (n c : Nat) (w : World) (hc : n ≤ c) (hn : n ≤ 9223372036854775807) (hb : n ≤ 1048576 → Bytes w a n) (hpw : Lby w) :
    Calls Tryz.prog 4 #[.slice a n c] w fun e w' => e = .returned (.bool true) ∧ Below w.heap.size w w' := by
  by_cases hbig : 1048576 < n
  · go_enter Tryz.func4, Tryz.ntmps4
    go_wp2_with fail
    go_ret
    exact ⟨rfl, (by repeat (first | with_reducible assumption | exact Below.refl _ _ | refine below_drewN ?_ _ | refine Below.drew ?_ | refine Below.alloc ?_ (by first | omega | (simp; done) | (simp; omega)) _ | refine Below.setCell ?_ (by first | omega | (simp; done) | (simp; omega)) _))⟩
  replace hb := hb (by omega)
  go_enter Tryz.func4, Tryz.ntmps4
  go_wp2_with fail
  refine (drawReadBook_any a n c w hc (by omega) hb).mono ?_
  rintro e w1 ⟨u, rfl, hu, bt⟩
  have lb := hpw.below bt
  clear hb hpw hn hc hbig
  obtain ⟨⟨⟨⟨⟨st, l⟩, d, ud⟩, nn⟩, ok⟩, hp⟩ : ∃ p, rdBk u = p := ⟨_, rfl⟩
  obtain ⟨hl, hd, rfl⟩ := rdBk_small hp
  simp only at hl hd
  have KI := Lib.hid (show ∀ (w' : World), Lby w' → Calls Tryz.prog 10 #[.string u] w' (RkOut ((⟨⟨st, l⟩, d, []⟩, nn), ok) w') from fun w' h => by
    have := readBook_any u w' (by omega) h
    rw [hp] at this
    exact this)
  have KS := Lib.hid (show ∀ (w' : World), Calls Tryz.prog 13 #[.string u] w' (RkOut ((⟨⟨st, l⟩, d, []⟩, nn), ok) w') from fun w' => by
    have := sreadBook_any u w' (by omega)
    rw [hp] at this
    exact this)
  have HP := Lib.hid hp
  clear hp
  go_wp2_with fail
  refine (KI.out _ lb).mono ?_
  rintro e w2 ⟨v1S, v2S, v3S, rfl, oS, c⟩
  obtain ⟨xS1, yS1, xS2, yS2, xS3, yS3, rfl, rfl, rfl⟩ := oS.forms
  simp only [List.length_nil] at oS ⊢
  replace lb := lb.below c
  replace bt := bt.trans (c.mono bt.size)
  clear c
  go_upto_region 5 with fail
  obtain ⟨BS0, hY⟩ : ∃ Y, w2.heap.size = Y := ⟨_, rfl⟩
  obtain ⟨w3, hV⟩ : ∃ V, V = w2.alloc (.cells #[.int .i64 st, .slice xS1 l.length yS1, .slice xS2 d.length yS2, .slice xS3 0 yS3] 28) := ⟨_, rfl⟩
  have c : Below w2.heap.size w2 w3 := by rw [hV]; exact (by repeat (first | with_reducible assumption | exact Below.refl _ _ | refine below_drewN ?_ _ | refine Below.drew ?_ | refine Below.alloc ?_ (by first | omega | (simp; done) | (simp; omega)) _ | refine Below.setCell ?_ (by first | omega | (simp; done) | (simp; omega)) _))
  have S0 : At w3 BS0 [.int .i64 st, .slice xS1 l.length yS1, .slice xS2 d.length yS2, .slice xS3 0 yS3] := by rw [hV]; exact At.new _ _ _ hY.symm rfl
  rw [hY, ← hV]
  clear hV hY
  replace lb := lb.below c
  replace oS := oS.below c
  replace bt := bt.trans (c.mono bt.size)
  clear c
  obtain ⟨tS00, tS01, tS02, tS03, tS04, tS05⟩ := id S0.facts4
  go_wp2_with fail
  refine (KS.out _).mono ?_
  rintro e w4 ⟨v1X, v2X, v3X, rfl, oX, c⟩
  clear tS00 tS01 tS02 tS03 tS04 tS05
  obtain ⟨xX1, yX1, xX2, yX2, xX3, yX3, rfl, rfl, rfl⟩ := oX.forms
  simp only [List.length_nil] at oX ⊢
  replace lb := lb.below c
  replace oS := oS.below c
  replace S0 := S0.below c
  replace bt := bt.trans (c.mono bt.size)
  clear c
  go_upto_region 6 with fail
  obtain ⟨BX0, hY⟩ : ∃ Y, w4.heap.size = Y := ⟨_, rfl⟩
  obtain ⟨w5, hV⟩ : ∃ V, V = w4.alloc (.cells #[.int .i64 st, .slice xX1 l.length yX1, .slice xX2 d.length yX2, .slice xX3 0 yX3] 28) := ⟨_, rfl⟩
  have c : Below w4.heap.size w4 w5 := by rw [hV]; exact (by repeat (first | with_reducible assumption | exact Below.refl _ _ | refine below_drewN ?_ _ | refine Below.drew ?_ | refine Below.alloc ?_ (by first | omega | (simp; done) | (simp; omega)) _ | refine Below.setCell ?_ (by first | omega | (simp; done) | (simp; omega)) _))
  have X0 : At w5 BX0 [.int .i64 st, .slice xX1 l.length yX1, .slice xX2 d.length yX2, .slice xX3 0 yX3] := by rw [hV]; exact At.new _ _ _ hY.symm rfl
  rw [hY, ← hV]
  clear hV hY
  replace lb := lb.below c
  replace oS := oS.below c
  replace S0 := S0.below c
  replace oX := oX.below c
  replace bt := bt.trans (c.mono bt.size)
  clear c
  have hok : (ok != ok) = false := by simp
  have hnn : ((nn : Int) != (nn : Int)) = false := by simp
  obtain ⟨tS00, tS01, tS02, tS03, tS04, tS05⟩ := id S0.facts4
  obtain ⟨tX00, tX01, tX02, tX03, tX04, tX05⟩ := id X0.facts4
  go_wp2_with fail
  refine (sameBook_any _ _ _ _ _ _ _ _ _ _ _ _ st st l l d [] d [] _ (by omega) (by omega) (by simp) (by omega) (by omega) (by simp) oS.kr oX.kr).mono ?_
  rintro e w6 ⟨rfl, c⟩
  clear tS00 tS01 tS02 tS03 tS04 tS05 tX00 tX01 tX02 tX03 tX04 tX05
  rw [dec_yes rfl]
  replace lb := lb.below c
  replace oS := oS.below c
  replace S0 := S0.below c
  replace oX := oX.below c
  replace X0 := X0.below c
  replace bt := bt.trans (c.mono bt.size)
  clear c
  clear oX X0
  cases ok with
  | false =>
    obtain ⟨hz, rfl⟩ := rdBk_no_zero HP.out
    simp only [zeroBk, Bk.mk.injEq, Sv.mk.injEq] at hz
    obtain ⟨⟨rfl, rfl⟩, rfl, -⟩ := hz
    clear oS
    simp only [List.length_nil] at S0
    obtain ⟨tS00, tS01, tS02, tS03, tS04, tS05⟩ := id S0.facts4
    go_wp2_with fail
    refine (noBook_zero _ _ _ _ _ _ _).mono ?_
    rintro e w7 ⟨rfl, c⟩
    clear tS00 tS01 tS02 tS03 tS04 tS05
    replace lb := lb.below c
    replace S0 := S0.below c
    replace bt := bt.trans (c.mono bt.size)
    clear c
    go_wp2_with fail
    refine (alive_any _ lb.pow).mono ?_
    rintro e w8 ⟨rfl, c⟩
    replace lb := lb.below c
    replace S0 := S0.below c
    replace bt := bt.trans (c.mono bt.size)
    clear c
    go_wp2_with fail
    go_ret
    exact ⟨rfl, bt⟩
  | true =>
    have hR := rdBk_read HP.out
    obtain ⟨f, r, hfr, hf, hF⟩ := rdBk_line HP.out
    obtain ⟨hf1, hf2, hf3⟩ := at_line hfr
    have hcap := oS.d.capsT
    have HPART := Lib.hid (show ∀ (k : Nat), k ≤ u.size → ∀ (y : Bk) (m : Nat) (can : Bool), rdBk (u.extract 0 k) = ((y, m), can) → can = decide (f.length < k) ∧ m ≤ k ∧ (can = true → y.first = ⟨st, l⟩ ∧ y.done <+: d) from fun k hk y m can h => by
      have := rdBk_part HP.out hk h
      rw [hF] at this
      exact this)
    have HL := Lib.hid hl
    have HOK := Lib.hid hR.ok
    have HTX := Lib.hid hR.text
    have hle := hR.le
    obtain ⟨F, hFl⟩ : ∃ F, f.length = F := ⟨_, rfl⟩
    rw [hFl] at HPART hf1
    have HC := Lib.hid (show ∀ (k : Nat) (hk : k < u.size), k < F → u[k].toNat ≠ 10 from fun k hk h e => hf (by
      have h1 := hf2 k hk (by omega)
      have h2 : u[k] = 10 := UInt8.toNat_inj.1 e
      rw [h2] at h1; exact h1))
    have HD := Lib.hid (show ∀ (hk : F < u.size), u[F].toNat = 10 from fun hk => by subst hFl; rw [hf3 hk]; rfl)
    have H0 : RkLp w BS0 st l d xS1 xS2 xS3 yS1 yS2 yS3 w6 := ⟨lb, oS.kr, S0, bt⟩
    clear hR hfr hf hF hf2 hf3 hFl HP KI KS oS S0 lb bt hl r f
    go_wp2_with fail
    go_loopw [10] (fun i wr => ∃ k : Nat, k ≤ F ∧ i = .int .i64 k ∧ RkLp w BS0 st l d xS1 xS2 xS3 yS1 yS2 yS3 wr) (fun i _ => F + 1 - (intOf i).toNat)
    case atStart => exact ⟨0, by omega, rfl, H0⟩
    case round =>
      clear H0
      obtain ⟨k, hk, rfl, H⟩ := hrel
      have hk1 : k < u.size := by omega
      by_cases hlt : k < F
      · have h1 := HC.out k hk1 hlt
        go_wp2
        go_roundw
        case rel => exact ⟨k + 1, by omega, by go_num, H⟩
        case measure => simp [intOf]; omega
      · obtain rfl : k = F := by omega
        have h1 := HD.out hk1
        clear HC HD hlt hk
        obtain ⟨Z, hZ⟩ : ∃ Z, u.size / 40 = Z := ⟨_, rfl⟩
        have hZ1 : Int.tdiv (u.size : Int) 40 = (Z : Int) := by rw [Int.tdiv_eq_ediv_of_nonneg (by omega)]; omega
        have hZ2 : IntKind.i64.wrap (Z : Int) = (Z : Int) := IntWalk.i64_in _ (by omega)
        have hZ3 : Z ≤ 501 := by omega
        obtain ⟨F, hFk⟩ : ∃ F, F = k := ⟨_, rfl⟩
        subst hFk
        clear hZ
        go_wp2_with fail
        go_loopw [11] (fun i wq => ∃ k : Nat, k ≤ 30000 ∧ i = .int .i64 k ∧ RkLp w BS0 st l d xS1 xS2 xS3 yS1 yS2 yS3 wq) (fun i _ => 40000 - (intOf i).toNat)
        case atStart => exact ⟨0, by omega, rfl, H⟩
        case round =>
          clear H h1 hk1
          obtain ⟨k, hk, rfl, H⟩ := hrel
          by_cases hlt : k ≤ u.size
          · have hlt2 : (k : Int) ≤ (u.size : Int) := by omega
            have hk3 : IntKind.i64.wrap ((k : Int) + 1) = (k : Int) + 1 := IntWalk.i64_in _ (by omega)
            have hk4 : IntKind.i64.wrap ((k : Int) + 1 + (Z : Int)) = (k : Int) + 1 + (Z : Int) := IntWalk.i64_in _ (by omega)
            obtain ⟨⟨⟨⟨⟨yst, yl⟩, yd, yu⟩, m⟩, can⟩, hp⟩ : ∃ p, rdBk (u.extract 0 k) = p := ⟨_, rfl⟩
            obtain ⟨hcan, hmk, hpre⟩ := HPART.out k hlt _ _ _ hp
            obtain ⟨hyl, hyd, rfl⟩ := rdBk_small hp
            simp only at hyl hyd hpre
            have KP := Lib.hid (show ∀ (w' : World), Lby w' → Calls Tryz.prog 10 #[.string (u.extract 0 k)] w' (RkOut ((⟨⟨yst, yl⟩, yd, []⟩, m), can) w') from fun w' h => by
              have := readBook_any (u.extract 0 k) w' (by simp only [ByteArray.size_extract]; omega) h
              rw [hp] at this
              exact this)
            clear hp
            have HCAN := Lib.hid hcan
            have HPRE := Lib.hid hpre
            clear hcan hpre
            have hmk2 : ¬ ((m : Int) > (k : Int)) := by omega
            have hmk3 : ¬ ((k : Int) < (m : Int)) := by omega
            have hlb := H.lb
            go_wp2_with fail
            refine (KP.out _ hlb).mono ?_
            rintro e v1 ⟨z1, z2, z3, rfl, oY, c⟩
            obtain ⟨xY1, yY1, xY2, yY2, xY3, yY3, rfl, rfl, rfl⟩ := oY.forms
            simp only [List.length_nil] at oY ⊢
            replace H := H.below c
            clear c KP hlb
            go_upto_region 17 with fail
            obtain ⟨BY, hY⟩ : ∃ Y, v1.heap.size = Y := ⟨_, rfl⟩
            obtain ⟨v2, hV⟩ : ∃ V, V = v1.alloc (.cells #[.int .i64 yst, .slice xY1 yl.length yY1, .slice xY2 yd.length yY2, .slice xY3 0 yY3] 28) := ⟨_, rfl⟩
            have c : Below v1.heap.size v1 v2 := by rw [hV]; exact (by repeat (first | with_reducible assumption | exact Below.refl _ _ | refine below_drewN ?_ _ | refine Below.drew ?_ | refine Below.alloc ?_ (by first | omega | (simp; done) | (simp; omega)) _ | refine Below.setCell ?_ (by first | omega | (simp; done) | (simp; omega)) _))
            have Y0 : At v2 BY [.int .i64 yst, .slice xY1 yl.length yY1, .slice xY2 yd.length yY2, .slice xY3 0 yY3] := by rw [hV]; exact At.new _ _ _ hY.symm rfl
            rw [hY, ← hV]
            replace H := H.below c
            replace oY := oY.below c
            clear hV hY c
            by_cases hFk : F < k
            · obtain rfl : can = true := by rw [HCAN.out]; exact decide_eq_true hFk
              obtain ⟨he1, he2⟩ := HPRE.out rfl
              simp only [Sv.mk.injEq] at he1
              obtain ⟨rfl, rfl⟩ := he1
              have hyd2 : yd.length ≤ d.length := he2.length_le
              have htk := pre_take he2
              have hF2 : ((F : Int) < (k : Int)) := by omega
              have hF3 : ((k : Int) > (F : Int)) := by omega
              have hmin : min (yd.length : Int) (d.length : Int) = (yd.length : Int) := by omega
              have hcp1 : yd.length ≤ yS2 := by omega
              have hcp2 : (yd.length : Int) ≤ (yS2 : Int) := by omega
              have hgt : decide (d.length < yd.length) = false := decide_eq_false (by omega)
              have hD1 : decide (F < k) = true := decide_eq_true (by omega)
              have hD2 : decide (k < m) = false := decide_eq_false (by omega)
              clear hmk2 hmk3 hF2 hF3
              have KQ := Lib.hid (show ∀ (w' : World), Dds w' xY2 yd → Dds w' xS2 d → Calls Tryz.prog 16 #[.slice xY2 yd.length yY2, .slice xS2 yd.length yS2] w' (fun e w'' => e = .returned (.bool true) ∧ Below w'.heap.size w' w'') from fun w' h h2 => by
                have h3 := h2.take yd.length
                rw [htk] at h3
                have := sameDeeds_any xY2 xS2 yY2 yS2 yd yd w' (by omega) (by omega) h h3
                rw [dec_yes rfl] at this
                exact this)
              have KV := Lib.hid (show ∀ (w' : World), Legs w' xY1 yl → Legs w' xS1 yl → Calls Tryz.prog 15 #[.agg #[.int .i64 yst, .slice xY1 yl.length yY1], .agg #[.int .i64 yst, .slice xS1 yl.length yS1]] w' (fun e w'' => e = .returned (.bool true) ∧ Below w'.heap.size w' w'') from fun w' h h2 => by
                have := sameSurvey_any xY1 xS1 yY1 yS1 yst yst yl yl w' (by omega) (by omega) h h2
                rw [dec_yes rfl] at this
                exact this)
              clear htk he2 HCAN HPRE
              have hyb := oY.kr
              have hsb := H.hs
              obtain ⟨t, t0, t1, t2, t3, tf⟩ := id Y0.facts4
              obtain ⟨s, s0, s1, s2, s3, sf⟩ := id H.s.facts4
              go_region_held3 (fun w' => Below v2.heap.size v2 w' ∧ ∀ b o, b < v2.heap.size → w'.cell? ⟨b, o, none⟩ = v2.cell? ⟨b, o, none⟩) (exact kept (by repeat (first | with_reducible assumption | with_reducible exact Below.refl _ _ | with_reducible refine Below.setCell ?_ (by first | omega | (simp; done) | (simp; omega)) _ | with_reducible refine Below.alloc ?_ (by first | omega | (simp; done) | (simp; omega)) _ | with_reducible refine Below.drew ?_)))
                (first
                | (go_at_call 15; refine (KV.out _ (hyb.l.below (by repeat (first | with_reducible assumption | with_reducible exact Below.refl _ _ | with_reducible refine Below.setCell ?_ (by first | omega | (simp; done) | (simp; omega)) _ | with_reducible refine Below.alloc ?_ (by first | omega | (simp; done) | (simp; omega)) _ | with_reducible refine Below.drew ?_))) (hsb.l.below (by repeat (first | with_reducible assumption | with_reducible exact Below.refl _ _ | with_reducible refine Below.setCell ?_ (by first | omega | (simp; done) | (simp; omega)) _ | with_reducible refine Below.alloc ?_ (by first | omega | (simp; done) | (simp; omega)) _ | with_reducible refine Below.drew ?_)))).mono ?_; rintro e wz ⟨rfl, cc⟩; have Bz := kept_next (V := v2) (by repeat (first | with_reducible assumption | with_reducible exact Below.refl _ _ | with_reducible refine Below.setCell ?_ (by first | omega | (simp; done) | (simp; omega)) _ | with_reducible refine Below.alloc ?_ (by first | omega | (simp; done) | (simp; omega)) _ | with_reducible refine Below.drew ?_)) cc; have zz := Bz.size; clear cc)
                | (go_at_call 16; refine (KQ.out _ (hyb.d.below (by repeat (first | with_reducible assumption | with_reducible exact Below.refl _ _ | with_reducible refine Below.setCell ?_ (by first | omega | (simp; done) | (simp; omega)) _ | with_reducible refine Below.alloc ?_ (by first | omega | (simp; done) | (simp; omega)) _ | with_reducible refine Below.drew ?_))) (hsb.d.below (by repeat (first | with_reducible assumption | with_reducible exact Below.refl _ _ | with_reducible refine Below.setCell ?_ (by first | omega | (simp; done) | (simp; omega)) _ | with_reducible refine Below.alloc ?_ (by first | omega | (simp; done) | (simp; omega)) _ | with_reducible refine Below.drew ?_)))).mono ?_; rintro e wy ⟨rfl, cc⟩; have By := kept_next (V := v2) (by repeat (first | with_reducible assumption | with_reducible exact Below.refl _ _ | with_reducible refine Below.setCell ?_ (by first | omega | (simp; done) | (simp; omega)) _ | with_reducible refine Below.alloc ?_ (by first | omega | (simp; done) | (simp; omega)) _ | with_reducible refine Below.drew ?_)) cc; have yy := By.size; clear cc))
              all_goals
                go_wp2_with fail
                go_roundw
                case rel => exact ⟨k + 1 + Z, by omega, by go_num, H.below (by repeat (first | with_reducible assumption | with_reducible exact Below.refl _ _ | with_reducible refine Below.setCell ?_ (by first | omega | (simp; done) | (simp; omega)) _ | with_reducible refine Below.alloc ?_ (by first | omega | (simp; done) | (simp; omega)) _ | with_reducible refine Below.drew ?_))⟩
                case measure => simp [intOf]; omega
            · obtain rfl : can = false := by rw [HCAN.out]; exact decide_eq_false hFk
              have hF2 : ¬ ((F : Int) < (k : Int)) := by omega
              have hF3 : ¬ ((k : Int) > (F : Int)) := by omega
              have hD1 : decide (F < k) = false := decide_eq_false hFk
              have hD2 : decide (k < m) = false := decide_eq_false (by omega)
              clear HCAN HPRE hF2 hF3 hmk2 hmk3
              go_big_quiet (fail)
              go_wp2_with fail
              go_roundw
              case rel => exact ⟨k + 1 + Z, by omega, by go_num, H.below (by repeat (first | with_reducible assumption | exact Below.refl _ _ | refine below_drewN ?_ _ | refine Below.drew ?_ | refine Below.alloc ?_ (by first | omega | (simp; done) | (simp; omega)) _ | refine Below.setCell ?_ (by first | omega | (simp; done) | (simp; omega)) _))⟩
              case measure => simp [intOf]; omega
          · have hlt2 : ¬ (k : Int) ≤ (u.size : Int) := by omega
            have hn1 : (nn : Int) ≤ (u.size : Int) := by omega
            have hn2 : decide (nn ≤ u.size) = true := decide_eq_true hle
            obtain ⟨s, s0, s1, s2, s3, sf⟩ := id H.s.facts4
            have hsb := H.hs
            have hpw := H.lb.pow
            go_upto_region 19 with fail
            have KV := Lib.hid (show ∀ (w' : World), RdB w' xS1 xS2 xS3 ⟨⟨st, l⟩, d, []⟩ → Calls Tryz.prog 8 #[.agg #[.int .i64 st, .slice xS1 l.length yS1, .slice xS2 d.length yS2, .slice xS3 0 yS3]] w' (fun e w'' => e = .returned (.bool true) ∧ Below w'.heap.size w' w'') from fun w' h => by
              have := bookValid_any xS1 xS2 xS3 yS1 yS2 yS3 st l d [] w' (by have := HL.out; omega) (by omega) (by simp) h
              rw [HOK.out] at this
              exact this)
            have KT := Lib.hid (show ∀ (w' : World), RdB w' xS1 xS2 xS3 ⟨⟨st, l⟩, d, []⟩ → Pow w' → Calls Tryz.prog 6 #[.agg #[.int .i64 st, .slice xS1 l.length yS1, .slice xS2 d.length yS2, .slice xS3 0 yS3]] w' (fun e w'' => e = .returned (.string (u.extract 0 nn)) ∧ Below w'.heap.size w' w'') from fun w' h h2 => by
              have := bookText_any xS1 xS2 xS3 yS1 yS2 yS3 st l d [] w' (by have := HL.out; omega) (by omega) (by simp) h h2
              rw [HTX.out] at this
              exact this)
            go_region_held3 (fun w' => Below wr.heap.size wr w' ∧ ∀ b o, b < wr.heap.size → w'.cell? ⟨b, o, none⟩ = wr.cell? ⟨b, o, none⟩) (exact kept (by repeat (first | with_reducible assumption | with_reducible exact Below.refl _ _ | with_reducible refine Below.setCell ?_ (by first | omega | (simp; done) | (simp; omega)) _ | with_reducible refine Below.alloc ?_ (by first | omega | (simp; done) | (simp; omega)) _ | with_reducible refine Below.drew ?_)))
              (first
              | (go_at_call 8; refine (KV.out _ (hsb.below (by repeat (first | with_reducible assumption | with_reducible exact Below.refl _ _ | with_reducible refine Below.setCell ?_ (by first | omega | (simp; done) | (simp; omega)) _ | with_reducible refine Below.alloc ?_ (by first | omega | (simp; done) | (simp; omega)) _ | with_reducible refine Below.drew ?_)))).mono ?_; rintro e wz ⟨rfl, cc⟩; have Bz := kept_next (V := wr) (by repeat (first | with_reducible assumption | with_reducible exact Below.refl _ _ | with_reducible refine Below.setCell ?_ (by first | omega | (simp; done) | (simp; omega)) _ | with_reducible refine Below.alloc ?_ (by first | omega | (simp; done) | (simp; omega)) _ | with_reducible refine Below.drew ?_)) cc; have zz := Bz.size; clear cc)
              | (go_at_call 6; refine (KT.out _ (hsb.below (by repeat (first | with_reducible assumption | with_reducible exact Below.refl _ _ | with_reducible refine Below.setCell ?_ (by first | omega | (simp; done) | (simp; omega)) _ | with_reducible refine Below.alloc ?_ (by first | omega | (simp; done) | (simp; omega)) _ | with_reducible refine Below.drew ?_))) (hpw.below (by repeat (first | with_reducible assumption | with_reducible exact Below.refl _ _ | with_reducible refine Below.setCell ?_ (by first | omega | (simp; done) | (simp; omega)) _ | with_reducible refine Below.alloc ?_ (by first | omega | (simp; done) | (simp; omega)) _ | with_reducible refine Below.drew ?_)))).mono ?_; rintro e wy ⟨rfl, cc⟩; have By := kept_next (V := wr) (by repeat (first | with_reducible assumption | with_reducible exact Below.refl _ _ | with_reducible refine Below.setCell ?_ (by first | omega | (simp; done) | (simp; omega)) _ | with_reducible refine Below.alloc ?_ (by first | omega | (simp; done) | (simp; omega)) _ | with_reducible refine Below.drew ?_)) cc; have yy := By.size; clear cc))
            all_goals
              go_wp2_with fail
              go_ret
              exact ⟨rfl, (H.below (by repeat (first | with_reducible assumption | with_reducible exact Below.refl _ _ | with_reducible refine Below.setCell ?_ (by first | omega | (simp; done) | (simp; omega)) _ | with_reducible refine Below.alloc ?_ (by first | omega | (simp; done) | (simp; omega)) _ | with_reducible refine Below.drew ?_))).u⟩
end Go.Proofs.YtcilgpmeliegoaaGreatDoor
