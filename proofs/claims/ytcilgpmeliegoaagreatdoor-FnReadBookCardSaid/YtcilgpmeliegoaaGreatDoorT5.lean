/- Walks: spec.ReadSurvey. Walks: impl.ReadSurvey. -/
import Derived.Test.YtcilgpmeliegoaaGreatDoorT4
import Derived.Test.YtcilgpmeliegoaaGreatDoorK4
set_option linter.unusedSimpArgs false
set_option linter.unusedVariables false
namespace Go.Proofs.YtcilgpmeliegoaaGreatDoor
open Go Go.RowKit Go.Sort

theorem legHereT (w : World) (x1 x2 x3 x4 x5 : Int) (T : TypeId) : Legs (w.alloc (.cells #[.int .i64 x1, .int .i64 x2, .int .i64 x3, .int .i64 x4, .int .i64 x5] T)) (some ⟨w.heap.size, 0, none⟩) [⟨x1, x2, x3, x4, x5⟩] := by
  refine KRd.mk (by simp) fun j u hu => ?_
  rw [Nat.zero_add]
  exact (At.new (X := w.heap.size) w _ T rfl rfl).c j u (by rw [flat_cons, flat_nil, List.append_nil] at hu; exact hu)

theorem rdLegs_snoc : ∀ (l : List ByteArray) (t : ByteArray) (gs : List Lg), rdLegs l = some gs → rdLegs (l ++ [t]) = match rdLeg t with
    | some g => some (gs ++ [g])
    | none => none
  | [], t, gs, h => by
    simp only [rdLegs, Option.some.injEq] at h
    subst h
    simp only [List.nil_append, rdLegs]
    cases rdLeg t <;> rfl
  | a :: l, t, gs, h => by
    rw [rdLegs] at h
    rw [List.cons_append, rdLegs]
    cases ha : rdLeg a with
    | none => rw [ha] at h; cases h
    | some g =>
      rw [ha] at h
      simp only at h ⊢
      cases hl : rdLegs l with
      | none => rw [hl] at h; cases h
      | some m =>
        rw [hl] at h
        simp only [Option.some.injEq] at h
        subst h
        rw [rdLegs_snoc l t m hl]
        cases rdLeg t <;> rfl
theorem rdLegs_bad : ∀ (l : List ByteArray) {t : ByteArray}, t ∈ l → rdLeg t = none → rdLegs l = none
  | [], t, h, _ => by cases h
  | a :: l, t, h, hn => by
    rw [rdLegs]
    rcases List.mem_cons.1 h with rfl | h
    · rw [hn]
    · rw [rdLegs_bad l h hn]
      cases rdLeg a <;> rfl
theorem rdLegs_len : ∀ (l : List ByteArray) (gs : List Lg), rdLegs l = some gs → gs.length = l.length
  | [], gs, h => by simp only [rdLegs, Option.some.injEq] at h; subst h; rfl
  | a :: l, gs, h => by
    rw [rdLegs] at h
    cases ha : rdLeg a with
    | none => rw [ha] at h; cases h
    | some g =>
      rw [ha] at h
      simp only at h
      cases hl : rdLegs l with
      | none => rw [hl] at h; cases h
      | some m =>
        rw [hl] at h
        simp only [Option.some.injEq] at h
        subst h
        simp [rdLegs_len l m hl]
theorem rdLeg_of_D {t : ByteArray} {g : Lg} (h : rdLegD t = (g, true)) : rdLeg t = some g := by
  unfold rdLegD at h
  cases hr : rdLeg t with
  | none => rw [hr] at h; simp at h
  | some g' => rw [hr] at h; simp only [Prod.mk.injEq, and_true] at h; rw [h]
theorem rdLeg_of_D' {t : ByteArray} {g : Lg} (h : rdLegD t = (g, false)) : rdLeg t = none := by
  unfold rdLegD at h
  cases hr : rdLeg t with
  | none => rfl
  | some g' => rw [hr] at h; simp at h
/-- legs of the first texts read, and of one more -/
theorem rdLegs_next {l : List ByteArray} {k : Nat} {gs : List Lg} (h : rdLegs (l.take k) = some gs) (hk : k < l.length) {g : Lg} (hg : rdLegD (nth l k) = (g, true)) : rdLegs (l.take (k + 1)) = some (gs ++ [g]) := by
  rw [take_nth hk, rdLegs_snoc _ _ _ h, rdLeg_of_D hg]
theorem rdSvD_bad (s t : ByteArray) (ht : t ∈ (cutB 59 s).tail) (h : rdLeg t = none) : rdSvD s = (zeroSv, false) := by
  unfold rdSvD rdSv candS
  rw [rdLegs_bad _ ht h]
theorem rdSvD_yes (s : ByteArray) (gs : List Lg) (h : rdLegs (cutB 59 s).tail = some gs) (h2 : surveyB ⟨rdL (nth (cutB 59 s) 0).data.toList, gs⟩ = s) (h0 : s.size ≠ 0) : rdSvD s = (⟨rdL (nth (cutB 59 s) 0).data.toList, gs⟩, true) := by
  unfold rdSvD rdSv candS
  rw [h]
  simp only
  rw [if_pos ⟨h2, h0⟩]
theorem rdSvD_not (s : ByteArray) (gs : List Lg) (h : rdLegs (cutB 59 s).tail = some gs) (h2 : ¬ (surveyB ⟨rdL (nth (cutB 59 s) 0).data.toList, gs⟩ = s ∧ s.size ≠ 0)) : rdSvD s = (zeroSv, false) := by
  unfold rdSvD rdSv candS
  rw [h]
  simp only
  rw [if_neg h2]
theorem tail_nth {l : List ByteArray} {k : Nat} : nth l.tail k = nth l (k + 1) := by
  cases l <;> simp [nth]
theorem l1Cut59 (s : ByteArray) (w : World) (hs : s.size ≤ 1048576) :
    Calls Tryz.prog 37 #[.string s, .int .u8 59] w fun e w' => ∃ a cp, e = .returned (.slice a (cutB 59 s).length cp) ∧ OwnT w' w.heap.size (.slice a (cutB 59 s).length cp) (cutB 59 s) ∧ Below w.heap.size w w' := l1Cut_any s 59 w hs
theorem below_s2 {B : Nat} {w w' : World} (h : Below B w w') {X : Nat} (hX : B ≤ X) (a b : Value) : Below B w ((w'.setCell ⟨X, 0, none⟩ a).setCell ⟨X, 1, none⟩ b) :=
  (h.setCell (p := ⟨X, 0, none⟩) hX a).setCell (p := ⟨X, 1, none⟩) hX b

set_option maxRecDepth 100000 in
set_option maxHeartbeats 4000000 in
theorem sreadSurvey_any (s : ByteArray) (w : World) (hs : s.size ≤ 1048576) : Calls Tryz.prog 38 #[.string s] w (SvOut (rdSvD s) w) := by
  have hlen := cutB_pos 59 s
  have hle : ∀ j, j < (cutB 59 s).length → (nth (cutB 59 s) j).size ≤ 1048576 := fun j hj => Nat.le_trans (cutB_le (nth_mem hj)) hs
  have hb20 := cutB_len 59 s
  have i1 := l1Cut59 s
  have HB := Lib.hid (rdSvD_bad s)
  have HY := Lib.hid (rdSvD_yes s)
  have HN := Lib.hid (rdSvD_not s)
  obtain ⟨ws, hws⟩ : ∃ ws, ws = cutB 59 s := ⟨_, rfl⟩
  rw [← hws] at hlen hle i1 HB HY HN hb20
  have HS := Lib.hid hle
  clear hws hle
  obtain ⟨N, hN⟩ : ∃ N, N = ws.length := ⟨_, rfl⟩
  have HL := Lib.hid hN
  rw [← hN] at i1 hlen hb20
  clear hN
  have hv := rdL_range (nth ws 0).data.toList
  have i2 := l1Read_any (nth ws 0)
  have z0 := HS.out 0 (by rw [← HL.out]; exact hlen)
  go_enter Tryz.func38, Tryz.ntmps38
  go_wp2_with fail
  obtain ⟨X, hX⟩ : ∃ X, w.heap.size = X := ⟨_, rfl⟩
  obtain ⟨W0, hW0⟩ : ∃ W0, W0 = w.alloc (.cells #[.int .i64 0, .slice none 0 0] 25) := ⟨_, rfl⟩
  have F0 : At W0 X [.int .i64 0, .slice none 0 0] := by rw [hW0]; exact At.new _ _ _ hX.symm rfl
  have b0 : Below w.heap.size w W0 := by rw [hW0]; exact (by repeat (first | with_reducible assumption | exact Below.refl _ _ | refine below_drewN ?_ _ | refine Below.drew ?_ | refine Below.alloc ?_ (by first | omega | (simp; done) | (simp; omega)) _ | refine Below.setCell ?_ (by first | omega | (simp; done) | (simp; omega)) _))
  rw [hX, ← hW0]
  clear hW0
  refine (i1 _ hs).mono ?_
  rintro e w1 ⟨a1, c1, rfl, o1, b1⟩
  replace F0 := F0.below b1
  replace b0 := b0.trans (b1.mono b0.size)
  clear b1 i1
  obtain ⟨P, rfl, hP1, hPl, hc1⟩ := OwnT.cells o1 (by rw [← HL.out]; exact hlen)
  have T0 : ∀ j, j < ws.length → w1.cell? ⟨P, j, none⟩ = some (.string (nth ws j)) := hc1
  have HT := Lib.hid T0
  have m0 := T0 0 (by rw [← HL.out]; exact hlen)
  clear hc1 o1 T0
  obtain ⟨st, hst⟩ : ∃ st, rdL (nth ws 0).data.toList = st := ⟨_, rfl⟩
  rw [hst] at i2 hv HY HN
  obtain ⟨w0, hw0⟩ : ∃ x, nth ws 0 = x := ⟨_, rfl⟩
  rw [hw0] at m0 i2 z0
  clear hst hw0
  go_wp2_with (go_at_call 73; refine (i2 _).mono ?_; rintro e wz ⟨rfl, rfl⟩)
  obtain ⟨Y, hY⟩ : ∃ Y, w1.heap.size = Y := ⟨_, rfl⟩
  obtain ⟨V, hV⟩ : ∃ V, V = w1.alloc (.cells #[.int .i64 st, .slice none 0 0] 25) := ⟨_, rfl⟩
  have A0 : At V Y [.int .i64 st, .slice none 0 0] := by rw [hV]; exact At.new _ _ _ hY.symm rfl
  have bV : Below w1.heap.size w1 V := by rw [hV]; exact (by repeat (first | with_reducible assumption | exact Below.refl _ _ | refine below_drewN ?_ _ | refine Below.drew ?_ | refine Below.alloc ?_ (by first | omega | (simp; done) | (simp; omega)) _ | refine Below.setCell ?_ (by first | omega | (simp; done) | (simp; omega)) _))
  rw [hY, ← hV]
  have hXY : X ≠ Y := by have := F0.lt; omega
  have hPY : P ≠ Y := by omega
  have hwY : w.heap.size ≤ Y := by have := b0.size; omega
  replace F0 := F0.below bV
  replace b0 := b0.trans (bV.mono b0.size)
  replace HT := Lib.hid (fun j (hj : j < ws.length) => (bV.cell (p := ⟨P, j, none⟩) hPl).trans (HT.out j hj))
  replace hPl := Nat.lt_of_lt_of_le hPl bV.size
  clear bV hV hY m0 i2 z0
  have hXB := F0.lt
  have hYB := A0.lt
  obtain ⟨B, hB⟩ : ∃ B, V.heap.size = B := ⟨_, rfl⟩
  rw [hB] at hXB hYB hPl
  have hwB : w.heap.size ≤ B := by omega
  have hBV : B ≤ V.heap.size := by omega
  clear hB
  go_loopw [6] (fun i wr => ∃ (k : Nat) (gs : List Lg) (av : Option Addr) (cv : Nat), k < N ∧ i = .int .i64 ((k : Int) + 1) ∧ Hid (rdLegs (ws.tail.take k) = some gs) ∧ At wr X [.int .i64 0, .slice none 0 0] ∧ At wr Y [.int .i64 st, .slice av gs.length cv] ∧ OwnL wr B (.slice av gs.length cv) gs ∧ B ≤ wr.heap.size ∧ Hid (∀ j, j < ws.length → wr.cell? ⟨P, j, none⟩ = some (.string (nth ws j))) ∧ Below w.heap.size w wr) (fun i _ => N - (intOf i).toNat)
  case atStart => exact ⟨0, [], none, 0, hlen, rfl, Lib.hid rfl, F0, A0, KOwn.nil, hBV, HT, b0⟩
  case round =>
    obtain ⟨k, gs, av, cv, hk, rfl, HG, F, A, ho, hBr, HT2, hb⟩ := hrel
    clear F0 A0 HT b0 hBV
    have hgl : gs.length ≤ k := by
      have h1 := rdLegs_len _ _ HG.out
      rw [h1, List.length_take]; omega
    by_cases hlt : k + 1 < N
    · have hki : (k : Int) + 1 < (N : Int) := by omega
      have m1 := HT2.out (k + 1) (by rw [← HL.out]; exact hlt)
      have z1 := HS.out (k + 1) (by rw [← HL.out]; exact hlt)
      have i4 := fun w => sreadLeg_any (nth ws (k + 1)) w z1
      have HM := Lib.hid (show nth ws (k + 1) ∈ ws.tail by rw [← tail_nth]; exact nth_mem (by rw [List.length_tail, ← HL.out]; omega))
      have HX := Lib.hid (fun g (hg : rdLegD (nth ws (k + 1)) = (g, true)) => rdLegs_next HG.out (by rw [List.length_tail, ← HL.out]; omega) (by rw [tail_nth]; exact hg))
      have HBx := Lib.hid (fun g (hg : rdLegD (nth ws (k + 1)) = (g, false)) => HB.out _ HM.out (rdLeg_of_D' hg))
      obtain ⟨w1s, hw1⟩ : ∃ x, nth ws (k + 1) = x := ⟨_, rfl⟩
      rw [hw1] at m1 i4 HX HBx
      clear hw1 HM z1
      obtain ⟨pr, hpr⟩ : ∃ pr, rdLegD w1s = pr := ⟨_, rfl⟩
      rw [hpr] at i4 HX HBx
      clear hpr
      obtain ⟨⟨g1, g2, g3, g4, g5⟩, gb⟩ := pr
      go_wp2_with fail
      refine (i4 _).mono ?_
      rintro e w8 ⟨rfl, b8⟩
      replace F := F.below b8
      replace A := A.below b8
      replace ho := ho.below b8
      replace hb := hb.trans (b8.mono hb.size)
      have HT3 := Lib.hid (fun j (hj : j < ws.length) => (b8.cell (p := ⟨P, j, none⟩) (by show P < wr.heap.size; omega)).trans (HT2.out j hj))
      have hBr2 := Nat.le_trans hBr b8.size
      clear b8 i4 m1 HT2 hBr
      simp only
      obtain ⟨r, r0, r1, rf⟩ := id F.facts2
      obtain ⟨y, y0, y1, yf⟩ := id A.facts2
      cases gb with
      | false =>
        have HD := Lib.hid (HBx.out _ rfl)
        clear HBx HX A
        go_wp2_with fail
        refine bodyPost_ret (v := .tuple #[.agg #[.int .i64 0, .slice none 0 0], .bool false]) (by simp [results, Tryz.results38, go_sem, r, r0, r1]) rfl ?_
        rw [HD.out]
        exact ⟨_, rfl, KOwn.nil, (below_s2 hb (by omega) _ _).alloc (below_s2 hb (by omega) _ _).size _⟩
      | true =>
        have HD := Lib.hid (HX.out _ rfl)
        clear HBx HX
        have hgl2 : gs.length ≤ 1048576 := by omega
        go_wp2_with (at_builtin; refine wpList_kApp legI _ _ rfl rfl B _ gs [⟨g1, g2, g3, g4, g5⟩] (some ⟨w8.heap.size + 1, 0, none⟩) 1 rfl ((ho.alloc _).alloc _) rfl (by have h := legHereT (w8.alloc (.cells #[.int .i64 g1, .int .i64 g2, .int .i64 g3, .int .i64 g4, .int .i64 g5] 45)) g1 g2 g3 g4 g5 45; simpa using h) (by omega) (by simp) (by simp; omega) ?_; rintro av5 cv5 w5 o5 - b5 -; have A5 := ((A.alloc (.cells #[.int .i64 g1, .int .i64 g2, .int .i64 g3, .int .i64 g4, .int .i64 g5] 45)).alloc (.cells #[.int .i64 g1, .int .i64 g2, .int .i64 g3, .int .i64 g4, .int .i64 g5] 45)).belowB b5 hYB; obtain ⟨q, q0, q1, qf⟩ := id A5.facts2)
        have hs8 : w8.heap.size ≤ w5.heap.size := Nat.le_trans (by simp; omega) b5.size
        have F5 := ((F.alloc (.cells #[.int .i64 g1, .int .i64 g2, .int .i64 g3, .int .i64 g4, .int .i64 g5] 45)).alloc (.cells #[.int .i64 g1, .int .i64 g2, .int .i64 g3, .int .i64 g4, .int .i64 g5] 45)).belowB b5 hXB
        have hb5 : Below w.heap.size w w5 := ((hb.alloc hb.size (.cells #[.int .i64 g1, .int .i64 g2, .int .i64 g3, .int .i64 g4, .int .i64 g5] 45)).alloc (hb.alloc hb.size (.cells #[.int .i64 g1, .int .i64 g2, .int .i64 g3, .int .i64 g4, .int .i64 g5] 45)).size (.cells #[.int .i64 g1, .int .i64 g2, .int .i64 g3, .int .i64 g4, .int .i64 g5] 45)).trans (b5.mono hwB)
        have HT5 := Lib.hid (fun j (hj : j < ws.length) => (b5.cell (p := ⟨P, j, none⟩) hPl).trans ((alloc_cell _ _ _ _ (by simp; omega)).trans ((alloc_cell _ _ _ _ (by omega)).trans (HT3.out j hj))))
        rw [List.length_append] at o5
        go_roundw
        case rel => exact ⟨k + 1, gs ++ [⟨g1, g2, g3, g4, g5⟩], av5, cv5, hlt, by go_num, HD, F5.setOther hXY _, by rw [List.length_append]; exact A5.set 1 _, by rw [List.length_append]; exact o5.setCell hYB _, by simp [World.setCell]; omega, Lib.hid (fun j hj => by rw [World.cell?_setCell_other _ _ _ _ (by intro e; injection e with e _; exact hPY e.symm)]; exact HT5.out j hj), hb5.setCell (by show w.heap.size ≤ Y; exact hwY) _⟩
        case measure => simp [intOf]; omega
    · obtain rfl : N = k + 1 := by omega
      have HG2 := Lib.hid (show rdLegs ws.tail = some gs by have h := HG.out; rwa [List.take_of_length_le (by rw [List.length_tail, ← HL.out]; omega)] at h)
      replace HY := Lib.hid (HY.out gs HG2.out)
      replace HN := Lib.hid (HN.out gs HG2.out)
      clear HG HG2 HB HT2 HS HL hlt
      have hgl2 : gs.length ≤ 1048576 := by omega
      have it := fun a c w h => ssurveyText_any a c st gs w hgl2 h
      obtain ⟨L, hL⟩ : ∃ L, L = surveyB ⟨st, gs⟩ := ⟨_, rfl⟩
      simp only [← hL] at it HY HN
      clear hL
      have hem := isEmpty_size s
      obtain ⟨r, r0, r1, rf⟩ := id F.facts2
      obtain ⟨y, y0, y1, yf⟩ := id A.facts2
      by_cases h0 : s.size = 0
      · rw [decide_eq_true h0] at hem
        have HD := Lib.hid (HN.out (fun h => h.2 h0))
        clear h0 it HY HN A F
        go_wp2_with fail
        refine bodyPost_ret (v := .tuple #[.agg #[.int .i64 0, .slice none 0 0], .bool false]) (by simp [results, Tryz.results38, go_sem, r, r0, r1]) rfl ?_
        rw [HD.out]
        exact ⟨_, rfl, KOwn.nil, below_s2 hb (by omega) _ _⟩
      rw [decide_eq_false h0] at hem
      go_wp2_with fail
      refine (it _ _ _ ho.kr).mono ?_
      rintro e w9 ⟨rfl, b9⟩
      replace F := F.below b9
      replace A := A.below b9
      replace ho := ho.below b9
      replace hb := hb.trans (b9.mono hb.size)
      clear b9 it y y0 y1 yf r r0 r1 rf
      obtain ⟨r, r0, r1, rf⟩ := id F.facts2
      obtain ⟨y, y0, y1, yf⟩ := id A.facts2
      have hne := run_strNe L s
      by_cases hLs : L = s
      · subst hLs
        simp only [decide_true, Bool.not_true] at hne
        have HD := Lib.hid (HY.out rfl h0)
        clear h0 HY HN
        go_wp2_with fail
        refine bodyPost_ret (v := .tuple #[.agg #[.int .i64 st, .slice av gs.length cv], .bool true]) (by simp [results, Tryz.results38, go_sem, r, r0, r1]) rfl ?_
        rw [HD.out]
        exact ⟨_, rfl, ((ho.setCell (p := ⟨X, 0, none⟩) hXB _).setCell (p := ⟨X, 1, none⟩) hXB _).mono hwB, below_s2 hb (by omega) _ _⟩
      · rw [decide_eq_false hLs, Bool.not_false] at hne
        have HD := Lib.hid (HN.out (fun h => hLs h.1))
        have hne2 : ¬ L.toList = s.toList := by rw [strEq_prop]; exact hLs
        have hne3 : (L.toList == s.toList) = false := by simpa using hne2
        clear h0 HY HN hLs
        go_wp2_with fail
        refine bodyPost_ret (v := .tuple #[.agg #[.int .i64 0, .slice none 0 0], .bool false]) (by simp [results, Tryz.results38, go_sem, r, r0, r1]) rfl ?_
        rw [HD.out]
        exact ⟨_, rfl, KOwn.nil, below_s2 hb (by omega) _ _⟩
end Go.Proofs.YtcilgpmeliegoaaGreatDoor

namespace Go.Proofs.YtcilgpmeliegoaaGreatDoor
open Go Go.RowKit Go.Sort

theorem cutB_none {c : UInt8} {s : ByteArray} (h : c ∉ s.data.toList) : cutB c s = [s] := by
  unfold cutB; rw [cutL_none h]; simp [toB_data]
theorem cutB_app {c : UInt8} {s p r : ByteArray} (h : s.data.toList = p.data.toList ++ c :: r.data.toList) (hp : c ∉ p.data.toList) : cutB c s = p :: cutB c r := by
  unfold cutB; rw [h, cutL_app _ hp, List.map_cons, toB_data]
/-- the text ahead of the byte, what is behind it, and whether it is there -/
def CutOut (c : UInt8) (s : ByteArray) (w : World) (e : Ending) (w' : World) : Prop :=
  ∃ (t r : ByteArray) (m : Bool), e = .returned (.tuple #[.string t, .string r, .bool m]) ∧ Hid (cutB c s = t :: (if m then cutB c r else [])) ∧ t.size ≤ s.size ∧ r.size ≤ s.size ∧ (m = true → t.size + 1 + r.size = s.size) ∧ (m = false → t = s) ∧ Below w.heap.size w w'
theorem cut_out (c : UInt8) (s : ByteArray) (w : World) (hs : s.size ≤ 1048576) (hw : Lby w) : Calls Tryz.prog 30 #[.string s, .string ⟨#[c]⟩] w (CutOut c s w) := by
  rcases has_or c s with h | ⟨p, r, e, hp⟩
  · refine (cut_miss c w hs h hw).mono fun e w' ⟨he, hb⟩ => ⟨s, ⟨#[]⟩, false, he, Lib.hid ?_, Nat.le_refl _, Nat.zero_le _, fun h => (by cases h), fun _ => rfl, hb⟩
    rw [cutB_none h]; rfl
  · have := part_le e
    refine (cut_hit c w hs e hp hw).mono fun e1 w' ⟨he, hb⟩ => ⟨p, r, true, he, Lib.hid ?_, by omega, by omega, fun _ => this, fun h => (by cases h), hb⟩
    rw [cutB_app e hp]; rfl

/-! ### plain law -/
theorem svI_bad0 (s : ByteArray) (h : atoF (nth (cutB 59 s) 0) = none) : rdSvD s = (zeroSv, false) := by
  unfold rdSvD
  rw [rdSv_no fun x hx e => ?_]
  subst e
  rw [surveyB_cutB hx] at h
  have hr := svOk_iff.1 hx
  rw [show nth (itoaB x.st :: x.legs.map legB) 0 = itoaB x.st from rfl, atoF_itoa (by omega)] at h
  cases h
theorem svI_many (s : ByteArray) (h : 9 < (cutB 59 s).tail.length) : rdSvD s = (zeroSv, false) := by
  unfold rdSvD
  rw [rdSv_no fun x hx e => ?_]
  subst e
  rw [surveyB_cutB hx] at h
  have hr := svOk_iff.1 hx
  simp at h
  omega
theorem svI_cand (s : ByteArray) (gs : List Lg) (v : Int) (h : rdLegs (cutB 59 s).tail = some gs) (h2 : atoF (nth (cutB 59 s) 0) = some v) : rdSvD s = if surveyB ⟨v, gs⟩ = s then (⟨v, gs⟩, true) else (zeroSv, false) := by
  have h0 : s.size ≠ 0 := by
    intro e
    have : s = ⟨#[]⟩ := ByteArray.ext (Array.ext' (by simpa using List.eq_nil_of_length_eq_zero (show s.data.toList.length = 0 from e)))
    subst this
    cases h2
  have hc := rdSv_cand (s := s) (g := ⟨v, gs⟩) fun x hx e => by
    subst e
    have hr := svOk_iff.1 hx
    rw [surveyB_cutB hx] at h h2
    rw [List.tail_cons, rdLegs_text _ (fun g hg => svOk_leg hx hg)] at h
    rw [show nth (itoaB x.st :: x.legs.map legB) 0 = itoaB x.st from rfl, atoF_itoa (by omega)] at h2
    obtain ⟨a, b⟩ := x
    simp only [Option.some.injEq] at h h2
    rw [h, h2]
  unfold rdSvD
  by_cases hl : surveyB ⟨v, gs⟩ = s
  · rw [hc, if_pos ⟨hl, h0⟩, if_pos hl]
  · rw [hc, if_neg (fun h => hl h.1), if_neg hl]
def meaR (r m : Value) : Nat := match r, m with
  | .string r, .bool true => r.size + 1
  | _, _ => 0

set_option maxRecDepth 100000 in
set_option maxHeartbeats 4000000 in
theorem readSurvey_any (s : ByteArray) (w : World) (hs : s.size ≤ 1048576) (hw : Lby w) : Calls Tryz.prog 31 #[.string s] w (SvOut (rdSvD s) w) := by
  have i1 := fun w hw => cut_out 59 s w hs hw
  have HB0 := Lib.hid (svI_bad0 s)
  have HBM := Lib.hid (svI_many s)
  have HB := Lib.hid (rdSvD_bad s)
  have HC := Lib.hid (fun gs v => svI_cand s gs v)
  go_enter Tryz.func31, Tryz.ntmps31
  go_wp2_with fail
  obtain ⟨X, hX⟩ : ∃ X, w.heap.size = X := ⟨_, rfl⟩
  obtain ⟨W0, hW0⟩ : ∃ W0, W0 = w.alloc (.cells #[.int .i64 0, .slice none 0 0] 25) := ⟨_, rfl⟩
  have F0 : At W0 X [.int .i64 0, .slice none 0 0] := by rw [hW0]; exact At.new _ _ _ hX.symm rfl
  have b0 : Below w.heap.size w W0 := by rw [hW0]; exact (by repeat (first | with_reducible assumption | exact Below.refl _ _ | refine below_drewN ?_ _ | refine Below.drew ?_ | refine Below.alloc ?_ (by first | omega | (simp; done) | (simp; omega)) _ | refine Below.setCell ?_ (by first | omega | (simp; done) | (simp; omega)) _))
  rw [hX, ← hW0]
  clear hW0
  refine (i1 _ (hw.below b0)).mono ?_
  rintro e w1 ⟨t0, r0, m0, rfl, HW, hz1, hz2, _, _, b1⟩
  replace F0 := F0.below b1
  replace b0 := b0.trans (b1.mono b0.size)
  clear b1 i1
  have e1 : (cutB 59 s).tail = if m0 then cutB 59 r0 else [] := by rw [HW.out]; rfl
  have e2 : nth (cutB 59 s) 0 = t0 := by rw [HW.out]; rfl
  rw [e2] at HB0 HC
  obtain ⟨wt, hwt⟩ : ∃ wt, wt = (cutB 59 s).tail := ⟨_, rfl⟩
  rw [← hwt] at e1 HBM HB HC
  have HE := Lib.hid e1
  clear e1 e2 hwt HW
  cases ha : atoF t0 with
  | none =>
    have HD := Lib.hid (HB0.out ha)
    have i2 := fun w hw => atoi_no ha w (by omega) hw
    clear ha HB0 HBM HB HC HE
    go_wp2_with fail
    refine (i2 _ (hw.below b0)).mono ?_
    rintro e w2 ⟨v, te, pe, rfl, b2⟩
    replace F0 := F0.below b2
    replace b0 := b0.trans (b2.mono b0.size)
    clear b2 i2
    obtain ⟨r, f0, f1, rf⟩ := F0.facts2
    go_wp2_with fail
    refine bodyPost_ret (v := .tuple #[.agg #[.int .i64 0, .slice none 0 0], .bool false]) (by simp [results, Tryz.results31, go_sem, r, f0, f1]) rfl ?_
    rw [HD.out]
    exact ⟨_, rfl, KOwn.nil, below_s2 b0 (by omega) _ _⟩
  | some v =>
    have i2 := fun w => atoi_ok ha w (by omega)
    have HCv := Lib.hid (fun gs (h : rdLegs wt = some gs) => HC.out gs v h ha)
    clear ha HB0 HC
    go_wp2_with fail
    refine (i2 _).mono ?_
    rintro e w2 ⟨rfl, b2⟩
    replace F0 := F0.below b2
    replace b0 := b0.trans (b2.mono b0.size)
    clear b2 i2
    go_wp2_with fail
    obtain ⟨Y, hY⟩ : ∃ Y, w2.heap.size = Y := ⟨_, rfl⟩
    obtain ⟨V, hV⟩ : ∃ V, V = w2.alloc (.cells #[.int .i64 v, .slice none 0 0] 25) := ⟨_, rfl⟩
    have A0 : At V Y [.int .i64 v, .slice none 0 0] := by rw [hV]; exact At.new _ _ _ hY.symm rfl
    have bV : Below w2.heap.size w2 V := by rw [hV]; exact (by repeat (first | with_reducible assumption | exact Below.refl _ _ | refine below_drewN ?_ _ | refine Below.drew ?_ | refine Below.alloc ?_ (by first | omega | (simp; done) | (simp; omega)) _ | refine Below.setCell ?_ (by first | omega | (simp; done) | (simp; omega)) _))
    rw [hY, ← hV]
    have hXY : X ≠ Y := by have := F0.lt; omega
    have hwY : w.heap.size ≤ Y := by have := b0.size; omega
    replace F0 := F0.below bV
    replace b0 := b0.trans (bV.mono b0.size)
    clear bV hV hY
    have hXB := F0.lt
    have hYB := A0.lt
    obtain ⟨B, hB⟩ : ∃ B, V.heap.size = B := ⟨_, rfl⟩
    rw [hB] at hXB hYB
    have hwB : w.heap.size ≤ B := by omega
    have hBV : B ≤ V.heap.size := by omega
    clear hB
    go_loopw [5, 6] (fun rest more wr => ∃ (m : Bool) (r : ByteArray) (ps : List ByteArray) (gs : List Lg) (av : Option Addr) (cv : Nat), more = .bool m ∧ rest = .string r ∧ Hid (wt = ps ++ (if m then cutB 59 r else [])) ∧ Hid (rdLegs ps = some gs) ∧ gs.length ≤ 9 ∧ r.size ≤ 1048576 ∧ At wr X [.int .i64 0, .slice none 0 0] ∧ At wr Y [.int .i64 v, .slice av gs.length cv] ∧ OwnL wr B (.slice av gs.length cv) gs ∧ B ≤ wr.heap.size ∧ Below w.heap.size w wr) (fun rest more _ => meaR rest more)
    case atStart => exact ⟨m0, r0, [], [], none, 0, rfl, rfl, HE, Lib.hid rfl, by simp, by omega, F0, A0, KOwn.nil, hBV, b0⟩
    case round =>
      obtain ⟨m, r, ps, gs, av, cv, rfl, rfl, HP, HG, hg9, hr, F, A, ho, hBr, hb⟩ := hrel
      clear F0 A0 b0 hBV HE
      cases m with
      | true =>
        have i3 := fun w hw => cut_out 59 r w hr hw
        go_wp2_with fail
        refine (i3 _ (hw.below hb)).mono ?_
        rintro e w3 ⟨t, r', m', rfl, HK, k1, k2, k3, k4, b3⟩
        replace F := F.below b3
        replace A := A.below b3
        replace ho := ho.below b3
        replace hb := hb.trans (b3.mono hb.size)
        replace hBr := Nat.le_trans hBr b3.size
        clear b3 i3
        have e3 : wt = (ps ++ [t]) ++ (if m' then cutB 59 r' else []) := by
          have := HP.out
          rw [if_pos trivial, HK.out] at this
          rw [this]; simp
        have HP2 := Lib.hid e3
        clear e3 HP HK
        have i4 := fun w hw => readLeg_any t w (by omega) hw
        have HX := Lib.hid (fun g (hg : rdLegD t = (g, true)) => show rdLegs (ps ++ [t]) = some (gs ++ [g]) by rw [rdLegs_snoc _ _ _ HG.out, rdLeg_of_D hg])
        have HBx := Lib.hid (fun g (hg : rdLegD t = (g, false)) => HB.out t (by rw [HP2.out]; simp) (rdLeg_of_D' hg))
        have HMx := Lib.hid (fun (h : gs.length = 9) => HBM.out (by
          have h1 := rdLegs_len _ _ HG.out
          rw [HP2.out]; simp; omega))
        clear HG
        obtain ⟨pr, hpr⟩ : ∃ pr, rdLegD t = pr := ⟨_, rfl⟩
        rw [hpr] at i4 HX HBx
        clear hpr
        obtain ⟨⟨g1, g2, g3, g4, g5⟩, gb⟩ := pr
        go_wp2_with fail
        refine (i4 _ (hw.below hb)).mono ?_
        rintro e w8 ⟨rfl, b8⟩
        replace F := F.below b8
        replace A := A.below b8
        replace ho := ho.below b8
        replace hb := hb.trans (b8.mono hb.size)
        replace hBr := Nat.le_trans hBr b8.size
        clear b8 i4
        simp only
        obtain ⟨fr, f0, f1, rf⟩ := id F.facts2
        obtain ⟨y, y0, y1, yf⟩ := id A.facts2
        cases gb with
        | false =>
          have HD := Lib.hid (HBx.out _ rfl)
          clear HBx HX A HMx
          go_wp2_with fail
          refine bodyPost_ret (v := .tuple #[.agg #[.int .i64 0, .slice none 0 0], .bool false]) (by simp [results, Tryz.results31, go_sem, fr, f0, f1]) rfl ?_
          rw [HD.out]
          exact ⟨_, rfl, KOwn.nil, (below_s2 hb (by omega) _ _).alloc (below_s2 hb (by omega) _ _).size _⟩
        | true =>
          have HD := Lib.hid (HX.out _ rfl)
          clear HBx HX
          by_cases h9 : gs.length = 9
          · have HD2 := Lib.hid (HMx.out h9)
            clear HMx A HD
            have h9i : (gs.length : Int) = 9 := by omega
            go_wp2_with fail
            refine bodyPost_ret (v := .tuple #[.agg #[.int .i64 0, .slice none 0 0], .bool false]) (by simp [results, Tryz.results31, go_sem, fr, f0, f1]) rfl ?_
            rw [HD2.out]
            exact ⟨_, rfl, KOwn.nil, (below_s2 hb (by omega) _ _).alloc (below_s2 hb (by omega) _ _).size _⟩
          · clear HMx
            have h9i : ¬ (gs.length : Int) = 9 := by omega
            have hgl2 : gs.length ≤ 1048576 := by omega
            go_wp2_with (at_builtin; refine wpList_kApp legI _ _ rfl rfl B _ gs [⟨g1, g2, g3, g4, g5⟩] (some ⟨w8.heap.size + 1, 0, none⟩) 1 rfl ((ho.alloc _).alloc _) rfl (by have h := legHereT (w8.alloc (.cells #[.int .i64 g1, .int .i64 g2, .int .i64 g3, .int .i64 g4, .int .i64 g5] 45)) g1 g2 g3 g4 g5 45; simpa using h) (by omega) (by simp) (by simp; omega) ?_; rintro av5 cv5 w5 o5 - b5 -; have A5 := ((A.alloc (.cells #[.int .i64 g1, .int .i64 g2, .int .i64 g3, .int .i64 g4, .int .i64 g5] 45)).alloc (.cells #[.int .i64 g1, .int .i64 g2, .int .i64 g3, .int .i64 g4, .int .i64 g5] 45)).belowB b5 hYB; obtain ⟨q, q0, q1, qf⟩ := id A5.facts2)
            have hs8 : w8.heap.size ≤ w5.heap.size := Nat.le_trans (by simp; omega) b5.size
            have F5 := ((F.alloc (.cells #[.int .i64 g1, .int .i64 g2, .int .i64 g3, .int .i64 g4, .int .i64 g5] 45)).alloc (.cells #[.int .i64 g1, .int .i64 g2, .int .i64 g3, .int .i64 g4, .int .i64 g5] 45)).belowB b5 hXB
            have hb5 : Below w.heap.size w w5 := ((hb.alloc hb.size (.cells #[.int .i64 g1, .int .i64 g2, .int .i64 g3, .int .i64 g4, .int .i64 g5] 45)).alloc (hb.alloc hb.size (.cells #[.int .i64 g1, .int .i64 g2, .int .i64 g3, .int .i64 g4, .int .i64 g5] 45)).size (.cells #[.int .i64 g1, .int .i64 g2, .int .i64 g3, .int .i64 g4, .int .i64 g5] 45)).trans (b5.mono hwB)
            rw [List.length_append] at o5
            go_roundw
            case rel => exact ⟨m', r', ps ++ [t], gs ++ [⟨g1, g2, g3, g4, g5⟩], av5, cv5, rfl, rfl, HP2, HD, by simp; omega, by omega, F5.setOther hXY _, by rw [List.length_append]; exact A5.set 1 _, by rw [List.length_append]; exact o5.setCell hYB _, by simp [World.setCell]; omega, hb5.setCell (by show w.heap.size ≤ Y; exact hwY) _⟩
            case measure =>
              cases m' with
              | true => have := k3 rfl; simp [meaR]; omega
              | false => simp [meaR]
      | false =>
        have HG2 := Lib.hid (show rdLegs wt = some gs by have h := HP.out; rw [if_neg (by decide), List.append_nil] at h; rw [h]; exact HG.out)
        have HD := Lib.hid (HCv.out gs HG2.out)
        clear HG HG2 HB HBM HP HCv
        have hgl2 : gs.length ≤ 1048576 := by omega
        have it := fun a c w h hp => surveyText_any a c v gs w hgl2 h hp
        obtain ⟨L, hL⟩ : ∃ L, L = surveyB ⟨v, gs⟩ := ⟨_, rfl⟩
        simp only [← hL] at it HD
        clear hL
        obtain ⟨fr, f0, f1, rf⟩ := id F.facts2
        obtain ⟨y, y0, y1, yf⟩ := id A.facts2
        go_wp2_with fail
        refine (it _ _ _ ho.kr (hw.below hb).pow).mono ?_
        rintro e w9 ⟨rfl, b9⟩
        replace F := F.below b9
        replace A := A.below b9
        replace ho := ho.below b9
        replace hb := hb.trans (b9.mono hb.size)
        clear b9 it y y0 y1 yf fr f0 f1 rf
        obtain ⟨fr, f0, f1, rf⟩ := id F.facts2
        obtain ⟨y, y0, y1, yf⟩ := id A.facts2
        have hne := run_strNe L s
        by_cases hLs : L = s
        · rw [if_pos hLs] at HD
          subst hLs
          simp only [decide_true, Bool.not_true] at hne
          go_wp2_with fail
          refine bodyPost_ret (v := .tuple #[.agg #[.int .i64 v, .slice av gs.length cv], .bool true]) (by simp [results, Tryz.results31, go_sem, fr, f0, f1]) rfl ?_
          rw [HD.out]
          exact ⟨_, rfl, ((ho.setCell (p := ⟨X, 0, none⟩) hXB _).setCell (p := ⟨X, 1, none⟩) hXB _).mono hwB, below_s2 hb (by omega) _ _⟩
        · rw [if_neg hLs] at HD
          rw [decide_eq_false hLs, Bool.not_false] at hne
          have hne2 : ¬ L.toList = s.toList := by rw [strEq_prop]; exact hLs
          have hne3 : (L.toList == s.toList) = false := by simpa using hne2
          clear hLs
          go_wp2_with fail
          refine bodyPost_ret (v := .tuple #[.agg #[.int .i64 0, .slice none 0 0], .bool false]) (by simp [results, Tryz.results31, go_sem, fr, f0, f1]) rfl ?_
          rw [HD.out]
          exact ⟨_, rfl, KOwn.nil, below_s2 hb (by omega) _ _⟩
end Go.Proofs.YtcilgpmeliegoaaGreatDoor
