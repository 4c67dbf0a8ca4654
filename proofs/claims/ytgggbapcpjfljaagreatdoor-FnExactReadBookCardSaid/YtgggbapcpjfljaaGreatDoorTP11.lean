/- Walks: impl.ReadLeg whole. -/
import Derived.Test.YtgggbapcpjfljaaGreatDoorTP10
namespace Go.Proofs.YtgggbapcpjfljaaGreatDoor
open Go Go.RowKit Go.Sort

/-- five numbers in an array of the call's own -/
structure Arr5 (w : World) (A : Nat) (f : Nat → Int) : Prop where
  lt : A < w.heap.size
  c : ∀ j, j < 5 → w.cell? ⟨A, j, none⟩ = some (.int .i64 (f j))
  f : ∀ j, w.frozen? ⟨A, j, none⟩ = false
theorem Arr5.below {w w' : World} {A : Nat} {f : Nat → Int} (h : Arr5 w A f) (hb : Below w.heap.size w w') : Arr5 w' A f :=
  ⟨Nat.lt_of_lt_of_le h.lt hb.size, fun j hj => (hb.cell (p := ⟨A, j, none⟩) h.lt).trans (h.c j hj), fun j => (hb.frozen (p := ⟨A, j, none⟩) h.lt).trans (h.f j)⟩
theorem Arr5.put {w : World} {A : Nat} {f : Nat → Int} (h : Arr5 w A f) (k : Nat) (hk : k < 5) (v : Int) : Arr5 (w.setCell ⟨A, k, none⟩ (.int .i64 v)) A (fun j => if j = k then v else f j) := by
  refine ⟨by simpa [World.setCell] using h.lt, fun j hj => ?_, fun j => by rw [World.frozen?_setCell]; exact h.f j⟩
  by_cases e : j = k
  · subst e; rw [if_pos rfl]; exact World.cell?_setCell_same _ _ _ (h.c j hk)
  · rw [if_neg e, World.cell?_setCell_other _ _ _ _ (by intro e'; injection e' with _ e2; exact e e2.symm)]; exact h.c j hj
/-- five texts -/
def Txt5 (w : World) (T : Nat) (ts : List ByteArray) : Prop := T < w.heap.size ∧ ∀ j, j < 5 → w.cell? ⟨T, j, none⟩ = some (.string (nth ts j))
theorem Txt5.below {w w' : World} {T : Nat} {ts : List ByteArray} (h : Txt5 w T ts) (hb : Below w.heap.size w w') : Txt5 w' T ts :=
  ⟨Nat.lt_of_lt_of_le h.1 hb.size, fun j hj => (hb.cell (p := ⟨T, j, none⟩) h.1).trans (h.2 j hj)⟩
theorem Txt5.set {w : World} {T : Nat} {ts : List ByteArray} (h : Txt5 w T ts) {a : Addr} (ha : a.block ≠ T) (v : Value) : Txt5 (w.setCell a v) T ts :=
  ⟨by simpa [World.setCell] using h.1, fun j hj => by rw [World.cell?_setCell_other _ _ _ _ (by intro e; exact ha (by rw [e]))]; exact h.2 j hj⟩

set_option maxRecDepth 100000 in
set_option maxHeartbeats 4000000 in
theorem readLeg_yes (s p q t u x y z : ByteArray) (w : World) (hs : s.size ≤ 1048576) (e1 : s.data.toList = p.data.toList ++ 62 :: q.data.toList) (hp : (62 : UInt8) ∉ p.data.toList) (e2 : q.data.toList = t.data.toList ++ 58 :: u.data.toList) (ht : (58 : UInt8) ∉ t.data.toList) (h : cutB 44 u = [x, y, z]) (hw : Lby w) : Calls Tryz.prog 36 #[.string s] w (LgOut (rdLegD s) w) := by
  have hq := part_le e1
  have hu := part_le e2
  have hx : x.size ≤ u.size := cutB_le (sep := 44) (s := u) (by rw [h]; simp)
  have hy : y.size ≤ u.size := cutB_le (sep := 44) (s := u) (by rw [h]; simp)
  have hz : z.size ≤ u.size := cutB_le (sep := 44) (s := u) (by rw [h]; simp)
  have i1 := fun w hw => cut_hit 62 w hs e1 hp hw
  have i2 := fun w hw => cut_hit 58 w (by omega) e2 ht hw
  have i3 := fun w hw => split_any 44 u w (by omega) hw
  have HBad := Lib.hid (fun (j : Nat) (hj : j < 5) (hn : atoF (nth [p, t, x, y, z] j) = none) => legI_bad e1 hp e2 ht h hj hn)
  have HCand := Lib.hid (fun (f : Nat → Int) (hf : ∀ j, j < 5 → atoF (nth [p, t, x, y, z] j) = some (f j)) => legI_cand e1 hp e2 ht h f hf)
  have hts : ∀ j, j < 5 → (nth [p, t, x, y, z] j).size ≤ 1048576 := fun j hj => by
    have : j = 0 ∨ j = 1 ∨ j = 2 ∨ j = 3 ∨ j = 4 := by omega
    rcases this with rfl | rfl | rfl | rfl | rfl
    · show p.size ≤ _; omega
    · show t.size ≤ _; omega
    · show x.size ≤ _; omega
    · show y.size ≤ _; omega
    · show z.size ≤ _; omega
  have HS := Lib.hid hts
  rw [h] at i3
  simp only [List.length_cons, List.length_nil, Nat.zero_add, List.map_cons, List.map_nil] at i3
  clear h e1 e2 hp ht hq hu hx hy hz hts
  obtain ⟨ts, hT⟩ : ∃ ts, ts = [p, t, x, y, z] := ⟨_, rfl⟩
  rw [← hT] at HBad HCand HS
  have HT := Lib.hid hT
  clear hT
  go_enter Tryz.func36, Tryz.ntmps36
  go_wp2_with fail
  obtain ⟨X, hX⟩ : ∃ X, w.heap.size = X := ⟨_, rfl⟩
  obtain ⟨W0, hW0⟩ : ∃ W0, W0 = w.alloc (.cells #[.int .i64 0, .int .i64 0, .int .i64 0, .int .i64 0, .int .i64 0] 39) := ⟨_, rfl⟩
  have F0 : At W0 X [.int .i64 0, .int .i64 0, .int .i64 0, .int .i64 0, .int .i64 0] := by rw [hW0]; exact At.new _ _ _ hX.symm rfl
  have b0 : Below w.heap.size w W0 := by rw [hW0]; exact (by repeat (first | with_reducible assumption | exact Below.refl _ _ | refine below_drewN ?_ _ | refine Below.drew ?_ | refine Below.alloc ?_ (by first | omega | (simp; done) | (simp; omega)) _ | refine Below.setCell ?_ (by first | omega | (simp; done) | (simp; omega)) _))
  rw [hX, ← hW0]
  clear hW0
  refine (i1 _ (hw.below b0)).mono ?_
  rintro e w1 ⟨rfl, b1⟩
  replace F0 := F0.below b1
  replace b0 := b0.trans (b1.mono b0.size)
  clear b1
  go_wp2_with fail
  refine (i2 _ (hw.below b0)).mono ?_
  rintro e w2 ⟨rfl, b2⟩
  replace F0 := F0.below b2
  replace b0 := b0.trans (b2.mono b0.size)
  clear b2
  go_wp2_with fail
  refine (i3 _ (hw.below b0)).mono ?_
  rintro e w3 ⟨rfl, b3⟩
  replace F0 := F0.alloc (.cells #[.string x, .string y, .string z] 9)
  replace b0 := b0.alloc b0.size (.cells #[.string x, .string y, .string z] 9)
  obtain ⟨P, hP⟩ : ∃ P, w2.heap.size = P := ⟨_, rfl⟩
  have G0 : At (w2.alloc (.cells #[.string x, .string y, .string z] 9)) P [.string x, .string y, .string z] := At.new _ _ _ hP.symm rfl
  have b3' : w2.alloc (.cells #[.string x, .string y, .string z] 9) = w3 := b3
  rw [b3'] at F0 b0 G0
  rw [hP]
  clear b3 b3' hP i1 i2 i3
  have g0 := G0.c 0 _ rfl
  have g1 := G0.c 1 _ rfl
  have g2 := G0.c 2 _ rfl
  have gl := G0.lt
  clear G0
  go_upto_region 11 with fail
  obtain ⟨A, hA⟩ : ∃ A, w3.heap.size = A := ⟨_, rfl⟩
  obtain ⟨V, hV⟩ : ∃ V, V = w3.alloc (.cells #[.int .i64 0, .int .i64 0, .int .i64 0, .int .i64 0, .int .i64 0] 78) := ⟨_, rfl⟩
  have A0 : Arr5 V A (fun _ => 0) := by
    have h5 : At V A [.int .i64 0, .int .i64 0, .int .i64 0, .int .i64 0, .int .i64 0] := by rw [hV]; exact At.new _ _ _ hA.symm rfl
    refine ⟨h5.lt, fun j hj => h5.c j _ ?_, h5.f⟩
    have : j = 0 ∨ j = 1 ∨ j = 2 ∨ j = 3 ∨ j = 4 := by omega
    rcases this with rfl | rfl | rfl | rfl | rfl <;> rfl
  have bV : Below w3.heap.size w3 V := by rw [hV]; exact (by repeat (first | with_reducible assumption | exact Below.refl _ _ | refine below_drewN ?_ _ | refine Below.drew ?_ | refine Below.alloc ?_ (by first | omega | (simp; done) | (simp; omega)) _ | refine Below.setCell ?_ (by first | omega | (simp; done) | (simp; omega)) _))
  rw [hA, ← hV]
  have hne : A ≠ X := by have := F0.lt; omega
  have hwA : w.heap.size ≤ A := by have := b0.size; omega
  replace F0 := F0.below bV
  replace b0 := b0.trans (bV.mono b0.size)
  replace g0 := (bV.cell (p := ⟨P, 0, none⟩) gl).trans g0
  replace g1 := (bV.cell (p := ⟨P, 1, none⟩) gl).trans g1
  replace g2 := (bV.cell (p := ⟨P, 2, none⟩) gl).trans g2
  replace gl := Nat.lt_of_lt_of_le gl bV.size
  clear bV hV hA
  have mixed : Tryz.prog.follows Departure.mixedOrders = true := by kernel_rfl
  go_cut [51, 52, 53] (fun a n i wx => n = .int .i64 5 ∧ i = .int .i64 0 ∧ ∃ T, a = .slice (some ⟨T, 0, none⟩) 5 5 ∧ V.heap.size ≤ T ∧ Txt5 wx T ts ∧ Below V.heap.size V wx)
  case first =>
    go_region_o
    all_goals (go_wp2_with fail; go_meet)
    all_goals
      refine ⟨rfl, rfl, _, rfl, Nat.le_refl _, ⟨by simp [World.drew], fun j hj => ?_⟩, (by repeat (first | with_reducible assumption | exact Below.refl _ _ | refine below_drewN ?_ _ | refine Below.drew ?_ | refine Below.alloc ?_ (by first | omega | (simp; done) | (simp; omega)) _ | refine Below.setCell ?_ (by first | omega | (simp; done) | (simp; omega)) _))⟩
      rw [HT.out]
      refine (At.new (X := V.heap.size) V #[.string p, .string t, .string x, .string y, .string z] 9 rfl rfl).c j _ ?_
      have : j = 0 ∨ j = 1 ∨ j = 2 ∨ j = 3 ∨ j = 4 := by omega
      rcases this with rfl | rfl | rfl | rfl | rfl <;> rfl
  case rest =>
    obtain ⟨rfl, rfl, T, rfl, hT1, T0, bT⟩ := hcut
    have hTX : T ≠ X := by have := F0.lt; omega
    have hTA : A ≠ T := by have := A0.lt; omega
    replace F0 := F0.below bT
    replace A0 := A0.below bT
    replace b0 := b0.trans (bT.mono b0.size)
    clear g0 g1 g2 gl bT hT1 HT
    go_wp2_with fail
    go_loopw [53] (fun i wr => ∃ (k : Nat) (f : Nat → Int), k ≤ 5 ∧ i = .int .i64 k ∧ Hid (∀ j, j < k → atoF (nth ts j) = some (f j)) ∧ At wr X [.int .i64 0, .int .i64 0, .int .i64 0, .int .i64 0, .int .i64 0] ∧ Arr5 wr A f ∧ Txt5 wr T ts ∧ Below w.heap.size w wr) (fun i _ => 5 - (intOf i).toNat)
    case atStart => exact ⟨0, fun _ => 0, by omega, rfl, Lib.hid (fun j hj => absurd hj (Nat.not_lt_zero j)), F0, A0, T0, b0⟩
    case round =>
      obtain ⟨k, f, hk, rfl, HF, F, A1, T1, hb⟩ := hrel
      clear F0 A0 T0 b0
      by_cases hlt : k < 5
      · have hsz := HS.out k hlt
        have c0 := T1.2 k hlt
        cases ha : atoF (nth ts k) with
        | none =>
          have i1 := fun w hw => atoi_no ha w hsz hw
          have HE := Lib.hid (HBad.out k hlt ha)
          clear ha
          obtain ⟨S, hS⟩ : ∃ S, nth ts k = S := ⟨_, rfl⟩
          rw [hS] at c0 i1
          clear hS
          go_wp2_with fail
          refine (i1 _ (hw.below hb)).mono ?_
          rintro e w5 ⟨v, te, pe, rfl, b5⟩
          replace F := F.below b5
          replace hb := hb.trans (b5.mono hb.size)
          clear b5 c0 i1
          obtain ⟨r, r0, r1, r2, r3, r4, rf⟩ := F.facts5
          clear F A1 T1
          go_wp2_with fail
          refine bodyPost_ret (v := .tuple #[.agg #[.int .i64 0, .int .i64 0, .int .i64 0, .int .i64 0, .int .i64 0], .bool false]) (by simp [results, Tryz.results36, go_sem, r0, r1, r2, r3, r4]) rfl ⟨by rw [HE.out]; rfl, ?_⟩
          exact below_set5 hb (by omega) _ _ _ _ _
        | some v =>
          have i1 := fun w => atoi_ok ha w hsz
          have HN : Hid (∀ j, j < k + 1 → atoF (nth ts j) = some ((fun j => if j = k then v else f j) j)) := Lib.hid (fun j hj => by
            by_cases e : j = k
            · subst e; simp only [if_pos]; exact ha
            · simp only [if_neg e]; exact HF.out j (by omega))
          clear ha
          obtain ⟨S, hS⟩ : ∃ S, nth ts k = S := ⟨_, rfl⟩
          rw [hS] at c0 i1
          clear hS
          go_wp2_with fail
          refine (i1 _).mono ?_
          rintro e w5 ⟨rfl, b5⟩
          replace F := F.below b5
          replace A1 := A1.below b5
          replace T1 := T1.below b5
          replace hb := hb.trans (b5.mono hb.size)
          clear b5 c0 i1
          have a1 := A1.c k hlt
          have a2 := A1.f k
          go_wp2_with fail
          go_roundw
          case rel => exact ⟨k + 1, _, by omega, by go_num, HN, F.setOther (by show X ≠ A; omega) _, A1.put k hlt v, T1.set (by show A ≠ T; exact hTA) _, hb.setCell (by show w.heap.size ≤ A; exact hwA) _⟩
          case measure => simp [intOf]; omega
      · obtain rfl : k = 5 := by omega
        have HE := Lib.hid (HCand.out f HF.out)
        have a0 := A1.c 0 (by omega)
        have a1 := A1.c 1 (by omega)
        have a2 := A1.c 2 (by omega)
        have a3 := A1.c 3 (by omega)
        have a4 := A1.c 4 (by omega)
        have al := A1.lt
        generalize f 0 = n1 at *
        generalize f 1 = n2 at *
        generalize f 2 = n3 at *
        generalize f 3 = n4 at *
        generalize f 4 = n5 at *
        have it := legText_any ⟨n1, n2, n3, n4, n5⟩
        obtain ⟨L, hL⟩ : ∃ L, L = legB ⟨n1, n2, n3, n4, n5⟩ := ⟨_, rfl⟩
        rw [← hL] at it HE
        simp only [Lg.val] at it
        clear hL HF HCand HBad HS A1 T1
        go_wp2_with fail
        obtain ⟨Y, hY⟩ : ∃ Y, wr.heap.size = Y := ⟨_, rfl⟩
        obtain ⟨V2, hV2⟩ : ∃ V2, V2 = wr.alloc (.cells #[.int .i64 n1, .int .i64 n2, .int .i64 n3, .int .i64 n4, .int .i64 n5] 39) := ⟨_, rfl⟩
        have AY : At V2 Y [.int .i64 n1, .int .i64 n2, .int .i64 n3, .int .i64 n4, .int .i64 n5] := by rw [hV2]; exact At.new _ _ _ hY.symm rfl
        have bV : Below wr.heap.size wr V2 := by rw [hV2]; exact (by repeat (first | with_reducible assumption | exact Below.refl _ _ | refine below_drewN ?_ _ | refine Below.drew ?_ | refine Below.alloc ?_ (by first | omega | (simp; done) | (simp; omega)) _ | refine Below.setCell ?_ (by first | omega | (simp; done) | (simp; omega)) _))
        rw [hY, ← hV2]
        replace F := F.below bV
        replace hb := hb.trans (bV.mono hb.size)
        clear bV hV2 hY a0 a1 a2 a3 a4 al
        refine (it _ (hw.below hb).pow).mono ?_
        rintro e w6 ⟨rfl, b6⟩
        replace F := F.below b6
        replace AY := AY.below b6
        replace hb := hb.trans (b6.mono hb.size)
        clear b6 it
        obtain ⟨t5, t0, t1, t2, t3, t4, tf⟩ := AY.facts5
        obtain ⟨r, r0, r1, r2, r3, r4, rf⟩ := F.facts5
        have hne := run_strNe L s
        clear AY F
        by_cases hLs : L = s
        · subst hLs
          simp only [decide_true, Bool.not_true] at hne
          rw [if_pos rfl] at HE
          have HE2 := HE
          clear HE
          go_wp2_with fail
          refine bodyPost_ret (v := .tuple #[.agg #[.int .i64 n1, .int .i64 n2, .int .i64 n3, .int .i64 n4, .int .i64 n5], .bool true]) (by simp [results, Tryz.results36, go_sem, r0, r1, r2, r3, r4]) rfl ⟨by rw [HE2.out], ?_⟩
          exact below_set5 hb (by omega) _ _ _ _ _
        · rw [decide_eq_false hLs, Bool.not_false] at hne
          rw [if_neg hLs] at HE
          have hne2 : ¬ L.toList = s.toList := by rw [Lib.toList_data, Lib.toList_data]; exact fun e => hLs (ByteArray.ext (Array.ext' e))
          have hne3 : (L.toList == s.toList) = false := by simpa using hne2
          clear hLs
          go_wp2_with fail
          refine bodyPost_ret (v := .tuple #[.agg #[.int .i64 0, .int .i64 0, .int .i64 0, .int .i64 0, .int .i64 0], .bool false]) (by simp [results, Tryz.results36, go_sem, r0, r1, r2, r3, r4]) rfl ⟨by rw [HE.out]; rfl, ?_⟩
          exact below_set5 hb (by omega) _ _ _ _ _

theorem readLeg_any (s : ByteArray) (w : World) (hs : s.size ≤ 1048576) (hw : Lby w) : Calls Tryz.prog 36 #[.string s] w (LgOut (rdLegD s) w) := by
  rcases has_or 62 s with h | ⟨p, q, e1, hp⟩
  · rw [legI_no62 h]; exact readLeg_no62 s w hs h hw
  rcases has_or 58 q with h | ⟨t, u, e2, ht⟩
  · rw [legI_no58 e1 hp h]; exact readLeg_no58 s p q w hs e1 hp h hw
  by_cases h3 : (cutB 44 u).length = 3
  · obtain ⟨x, y, z, h⟩ := three_list h3
    exact readLeg_yes s p q t u x y z w hs e1 hp e2 ht h hw
  · rw [legI_no3 e1 hp e2 ht h3]; exact readLeg_no3 s p q t u w hs e1 hp e2 ht h3 hw
end Go.Proofs.YtgggbapcpjfljaaGreatDoor
