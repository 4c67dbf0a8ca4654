/- The law FnPayOk, walked. -/
import Derived.Test.YtnjpifaphmeepaaDoorV13
import Derived.Laws.OwnMore
import Derived.StillTailTactics
namespace Go.Proofs.YtnjpifaphmeepaaDoor
open Go Go.RowKit

theorem Mof_set {pay : List (List Int)} {k j i t : Nat} {x : Int} (hi : i < pay.length) (ht : t < (nth pay i).length) : Mof (pay.set k ((nth pay k).set j x)) i t = if i = k ∧ t = j then x else Mof pay i t := by
  unfold Mof
  rw [nth_set hi]
  by_cases e : k = i
  · subst e
    rw [if_pos rfl, nth_set ht]
    by_cases e2 : j = t
    · rw [if_pos e2, if_pos ⟨rfl, e2.symm⟩]
    · rw [if_neg e2, if_neg (fun h => e2 h.2.symm)]
  · rw [if_neg e, if_neg (fun h => e h.1.symm)]
/-- a payment may be less by 1 -/
theorem less_ok {bs : List Blk} {pay : List (List Int)} {k j : Nat} (h : payOkF bs pay = true) (hk : k < bs.length) (hj : j < bs.length) (hx : 0 < Mof pay k j) : payOkF bs (pay.set k ((nth pay k).set j (Mof pay k j - 1))) = true := by
  have hp := (payOk_num h).1
  have hc := (payOk_iff hp pay).1 h
  have hM : ∀ i t, i < bs.length → t < bs.length → Mof (pay.set k ((nth pay k).set j (Mof pay k j - 1))) i t = if i = k ∧ t = j then Mof pay k j - 1 else Mof pay i t := fun i t hi ht => Mof_set (by rw [hc.len]; exact hi) (by rw [hc.row i hi]; exact ht)
  have hle : ∀ i t, i < bs.length → t < bs.length → Mof (pay.set k ((nth pay k).set j (Mof pay k j - 1))) i t ≤ Mof pay i t := fun i t hi ht => by
    rw [hM i t hi ht]
    split
    · rename_i e; obtain ⟨rfl, rfl⟩ := e; omega
    · exact Int.le_refl _
  refine (payOk_iff hp _).2 ⟨by simpa using hc.len, fun i hi => ?_, fun i t hi ht => ?_, fun i hi => ?_, fun t ht => ?_⟩
  · rw [nth_set (by rw [hc.len]; exact hi)]
    split
    · rw [List.length_set]; exact hc.row k hk
    · exact hc.row i hi
  · have h1 := hc.num i t hi ht
    have h2 := hle i t hi ht
    refine ⟨?_, fun h3 => h1.2 (by omega)⟩
    rw [hM i t hi ht]
    split
    · omega
    · exact h1.1
  · exact Int.le_trans (sumN_le fun t ht => hle i t hi ht) (hc.out i hi)
  · exact Int.le_trans (sumN_le fun i hi => hle i t hi ht) (hc.get t ht)

/-- the rows' heads, appended -/
theorem appHeads {w : World} {ops : Array Oper} {rest : List Oper} {o : Oper} {a : Act} {Q : Exit → Act → World → Prop} (s x : Operand) (hw : Region.wanted o (yielded ops a.tmps) = true)
    (hop : o.op = .call { callee := .builtin .append, args := #[s, x], argTypes := #[43, 43] }) (B : Nat) (v : Value) (n b c : Nat) (X : Nat → Value) (hs : a.eval s = v)
    (hown : w.ownsRow B 26 1 v 0 []) (hx : a.eval x = .slice (some ⟨b, 0, none⟩) n c) (hX : ∀ j, j < n → w.cell? ⟨b, j, none⟩ = some (X j)) (h1 : ∀ j, j < n → (X j).oneCell' = true) (hl : n ≤ 1048576) (hB : B ≤ w.heap.size) (hv : v ≠ .slice none 0 0)
    (hK : ∀ g' c' w', w'.ownsRow B 26 1 (.slice (some ⟨g', 0, none⟩) n c') n ((List.range n).map X) → B ≤ g' → Below B w w' → wpList Tryd.prog ops Q rest (a.put o.dst (.slice (some ⟨g', 0, none⟩) n c')) w') : wpList Tryd.prog ops Q (o :: rest) a w := by
  refine BigFrame.wpList_want hw fun K hK' => ?_
  obtain ⟨i0, hi, hz0, hz1, hz2⟩ := info_parts infoInts
  obtain ⟨v', w', hr, h2, h3, h4, h5⟩ := run_append_own_at (P := Tryd.prog) w B 43 o.type 26 i0 _ 1 24 Tryd.underlying43 hi hz0 hz1 hz2 rfl (by decide) v 0 _ hown ⟨b, 0, none⟩ n c ((List.range n).map X) (by simp)
    (by
      intro j u hj
      have hlt : j < n := by have := (List.getElem?_eq_some_iff.1 hj).1; simpa using this
      rw [Addr.add_lit, Nat.zero_add, hX j hlt]
      simpa [hlt] using hj)
    (by intro u hu; obtain ⟨j, hj, rfl⟩ := List.mem_map.1 hu; exact h1 j (List.mem_range.1 hj)) (by unfold maxLen; omega) (by omega) hB
  have hnn : v' ≠ .slice none 0 0 := fun e => hv (h4.1 e).1
  rw [Nat.zero_add, List.nil_append] at h2
  obtain ⟨g', c', e', hg'⟩ : ∃ g' c', v' = .slice (some ⟨g', 0, none⟩) n c' ∧ B ≤ g' := by
    rcases h2.2 with ⟨e, _⟩ | ⟨g, cap, cur, e, hB, _⟩
    · exact absurd e hnn
    · exact ⟨g, cap, e, hB⟩
  subst e'
  unfold Oper.wp execOp
  simp only [hop, resolve, invoke, builtin, Sem.run_bind, Sem.run_pure, Result.andThen_ok, List.map_toArray, List.map_cons, List.map_nil, hs, hx, hr]
  exact hK' _ _ (hK g' c' w' h2 hg' (grown_below h3 hB fun k hk => (hown.lt k hk).1))

theorem less_tab {w1 w : World} {gP L r k c : Nat} {pay : List (List Int)} {row' : List Int} (ht : Tab w1 (some ⟨gP, 0, none⟩) pay) (hk : k < pay.length) (hb : Below w1.heap.size w1 w) (hL : L < w.heap.size)
    (hX : ∀ i, i < pay.length → i ≠ k → w.cell? ⟨L, i, none⟩ = some ((w1.cell? ⟨gP, i, none⟩).getD (.int .i64 0))) (hkc : w.cell? ⟨L, k, none⟩ = some (.slice (some ⟨r, 0, none⟩) row'.length c)) (hc : row'.length ≤ c) (hc2 : c ≤ 9223372036854775807)
    (hr : row'.length ≤ 1048576) (hi : Ints w (some ⟨r, 0, none⟩) row') : Tab w (some ⟨L, 0, none⟩) (pay.set k row') := by
  refine .inr ⟨L, 0, rfl, hL, fun i hil => ?_⟩
  rw [List.length_set] at hil
  rw [nth_set hil]
  by_cases e : k = i
  · subst e
    rw [if_pos rfl]
    exact ⟨hr, _, c, by simpa [rowL] using hkc, hc, hc2, hi⟩
  · rw [if_neg e]
    obtain ⟨b, off, A, C, e0, hbw, h1, h2, h3, h4, h5⟩ := Tab.at ht hil
    cases e0
    refine ⟨h2, A, C, ?_, h3, h4, h5.below hb⟩
    have := hX i hil (fun h => e h.symm)
    rw [Nat.zero_add] at h1
    rw [h1] at this
    simpa [rowL] using this
theorem payOk_at (a1 a2 : Option Addr) (c1 c2 : Nat) (bs : List Blk) (pay : List (List Int)) (w : World) (N2 : Nat) (e2 : pay.length = N2) (hl : bs.length ≤ 1048576) (hl2 : N2 ≤ 1048576) (hs : Pit w a1 bs) (ht : Tab w a2 pay) :
    Calls Tryd.prog 44 #[.slice a1 bs.length c1, .slice a2 N2 c2] w fun e w' => e = .returned (.bool (payOkF bs pay)) ∧ Below w.heap.size w w' := by
  subst e2
  exact payOk_any a1 a2 c1 c2 bs pay w hl hl2 hs ht

set_option maxRecDepth 100000 in
set_option maxHeartbeats 2000000 in
theorem lawPayOk (a : Option Addr) (n c : Nat) (w : World) (hc : n ≤ c) (hn : n ≤ 9223372036854775807) (hb : n ≤ 1048576 → Bytes w a n) (hpw : Pow w) :
    Calls Tryd.prog 9 #[.slice a n c] w fun e w' => e = .returned (.bool true) ∧ Below w.heap.size w w' := by
  by_cases hbig : 1048576 < n
  · go_enter Tryd.func9, Tryd.ntmps9
    go_wp2_with fail
    go_ret
    exact ⟨rfl, (by repeat (first | with_reducible assumption | exact Below.refl _ _ | refine below_drewN ?_ _ | refine Below.drew ?_ | refine Below.alloc ?_ (by first | omega | (simp; done) | (simp; omega)) _ | refine Below.setCell ?_ (by first | omega | (simp; done) | (simp; omega)) _))⟩
  replace hb := hb (by omega)
  go_enter Tryd.func9, Tryd.ntmps9
  go_wp2_with fail
  refine (drawPayOk_any a n c w hc (by omega) hb).mono ?_
  rintro e w1 ⟨bs, pay, g, C, gP, CP, rfl, h9, h10, hC, hCP, hp, ht, hbt⟩
  clear hb
  have hne : (payOkF bs pay != payOkF bs pay) = false := by simp
  have HE := Lib.hid (payOkS_eq bs pay)
  go_wp2_with fail
  refine (payOk_any _ _ _ _ bs pay _ (by omega) (by omega) hp ht).mono ?_
  rintro e w2 ⟨rfl, bN⟩
  replace hp := hp.below bN
  replace ht := ht.below bN
  replace hbt := hbt.trans (bN.mono hbt.size)
  clear bN
  go_wp2_with fail
  refine (spayOk_any _ _ _ _ bs pay _ (by omega) (by omega) hp ht).mono ?_
  rintro e w2 ⟨rfl, bN⟩
  replace hp := hp.below bN
  replace ht := ht.below bN
  replace hbt := hbt.trans (bN.mono hbt.size)
  clear bN
  rw [HE.out]
  cases hok : payOkF bs pay
  · rw [hok] at hne
    go_wp2_with fail
    refine (alive_any _ (hpw.below hbt)).mono ?_
    rintro e w2 ⟨rfl, bN⟩
    replace hp := hp.below bN
    replace hbt := hbt.trans (bN.mono hbt.size)
    clear bN
    go_wp2_with fail
    go_ret
    exact ⟨rfl, hbt⟩
  rw [hok] at hne
  obtain ⟨hpok, hpc, hsum, hx0, hx1⟩ := paySumF_of hok
  have hl8 := pitOk_len hpok
  go_wp2_with fail
  refine (paySum_any _ _ _ _ bs pay _ (by omega) (by omega) hp ht).mono ?_
  rintro e w2 ⟨rfl, bN⟩
  replace hp := hp.below bN
  replace ht := ht.below bN
  replace hbt := hbt.trans (bN.mono hbt.size)
  clear bN
  have HCut : Hid (∀ q : Nat, mayF bs (q : Int) = true → paySumF bs pay ≤ cutF bs (q : Int)) := fun q hq => by
    rw [hsum, cutF_sum hq]
    have : mayOf bs q = true := by simp only [mayF, Bool.and_eq_true, Int.toNat_natCast] at hq; exact hq.2
    exact hpc.inv.le_cut ((may_closed hpok).1 this)
  have HLess : Hid (∀ k j, k < bs.length → j < bs.length → 0 < Mof pay k j → payOkF bs (pay.set k ((nth pay k).set j (Mof pay k j - 1))) = true) := fun k j hk hj h0 => less_ok hok hk hj h0
  have HNum : Hid (∀ k j, k < bs.length → j < bs.length → 0 ≤ Mof pay k j ∧ Mof pay k j ≤ 20) := fun k j hk hj => by
    have h1 := (payOk_num hok).2.2 (nth pay k) (nth_mem (by rw [hpc.len]; exact hk))
    exact h1.2 _ (nth_mem (by rw [h1.1]; exact hj))
  have HLen := Lib.hid hpc.len
  have HRow := Lib.hid hpc.row
  have hl10 : pay.length ≤ 8 := by rw [hpc.len]; exact hl8
  clear hok hne hpc hsum hx1 HE
  generalize paySumF bs pay = x at hx0 HCut ⊢
  have hP := pow_int hl8
  have hmin : min bs.length 64 = bs.length := by omega
  have h256 := pow_le_of (n := bs.length) (k := 8) hl8
  obtain ⟨P, hPP⟩ : ∃ P, 2 ^ bs.length = P := ⟨_, rfl⟩
  rw [hPP] at hP h256
  clear hPP
  go_wp2_with fail
  go_loopw [7] (fun o wr => ∃ (k : Nat), k ≤ P ∧ o = .int .i64 k ∧ Pit wr (some ⟨g, 0, none⟩) bs ∧ Tab wr (some ⟨gP, 0, none⟩) pay ∧ Below w.heap.size w wr) (fun o _ => P - (intOf o).toNat)
  case atStart => exact ⟨0, by omega, rfl, hp, ht, hbt⟩
  case round =>
    clear hp hbt ht
    obtain ⟨k, hk, rfl, hp, ht, hbt⟩ := hrel
    by_cases hlt : k < P
    · go_wp2_with fail
      refine (pitMay_any _ _ bs (k : Int) _ (by omega) hp).mono ?_
      rintro e w2 ⟨rfl, bN⟩
      replace hp := hp.below bN
      replace ht := ht.below bN
      replace hbt := hbt.trans (bN.mono hbt.size)
      clear bN
      cases hmk : mayF bs (k : Int)
      · go_wp2_with fail
        go_roundw
        case rel => exact ⟨k + 1, by omega, by go_num, hp, ht, hbt⟩
        case measure => simp [intOf] <;> omega
      · have hcut := HCut.out k hmk
        clear hmk
        go_wp2_with fail
        refine (pitCut_any _ _ bs (k : Int) _ (by omega) hp).mono ?_
        rintro e w2 ⟨rfl, bN⟩
        replace hp := hp.below bN
        replace ht := ht.below bN
        replace hbt := hbt.trans (bN.mono hbt.size)
        clear bN
        generalize cutF bs (k : Int) = V at hcut ⊢
        have n1 : ¬ V < x := by omega
        have n2 : decide (V < x) = false := by simpa using n1
        go_wp2_with fail
        go_roundw
        case rel => exact ⟨k + 1, by omega, by go_num, hp, ht, hbt⟩
        case measure => simp [intOf] <;> omega
    · go_wp2_with fail
      clear hlt hP hmin h256
      go_loopw [8] (fun o wr => ∃ (k : Nat), k ≤ pay.length ∧ o = .int .i64 k ∧ Pit wr (some ⟨g, 0, none⟩) bs ∧ Tab wr (some ⟨gP, 0, none⟩) pay ∧ Below w.heap.size w wr) (fun o _ => pay.length - (intOf o).toNat)
      case atStart => exact ⟨0, by omega, rfl, hp, ht, hbt⟩
      case round =>
        clear hp hbt ht
        obtain ⟨k, hk, rfl, hp, ht, hbt⟩ := hrel
        by_cases hkl : k < pay.length
        · have hI0 : (k : Int) < (pay.length : Int) := by omega
          have hrk : (nth pay k).length = bs.length := HRow.out k (by have := HLen.out; omega)
          go_wp2_with fail
          go_loopw [9] (fun o wr => ∃ (j : Nat), j ≤ bs.length ∧ o = .int .i64 j ∧ Pit wr (some ⟨g, 0, none⟩) bs ∧ Tab wr (some ⟨gP, 0, none⟩) pay ∧ Below w.heap.size w wr) (fun o _ => bs.length - (intOf o).toNat)
          case atStart => exact ⟨0, by omega, rfl, hp, ht, hbt⟩
          case round =>
            clear hp hbt ht
            obtain ⟨j, hj, rfl, hp, ht, hbt⟩ := hrel
            obtain ⟨b, off, A, C', e0, hbw, h1, h2, h3, h4, h5⟩ := Tab.at ht hkl
            cases e0
            rw [Nat.zero_add] at h1
            by_cases hjl : j < bs.length
            · have hjr : j < (nth pay k).length := by omega
              obtain ⟨b2, off2, e2, hb2w, h6⟩ := Ints.at h5 hjr
              cases e2
              have h6j := h6 j hjr
              have HN := Lib.hid (HNum.out k j (by have := HLen.out; omega) hjl)
              have HL := Lib.hid (HLess.out k j (by have := HLen.out; omega) hjl)
              obtain ⟨row, hrow⟩ : ∃ row, nth pay k = row := ⟨_, rfl⟩
              obtain ⟨x1, hx1⟩ : ∃ x1, Mof pay k j = x1 := ⟨_, rfl⟩
              have hx2 : nth row j = x1 := by rw [← hx1, ← hrow]
              rw [hx1] at HN HL
              rw [hrow] at h1 h2 h3 h5 h6j hrk hjr HL
              rw [hx2] at h6j
              have HX2 := Lib.hid hx2
              have hxr := HN.out
              have hI1 : (j : Int) < (row.length : Int) := by omega
              have h1b := h1
              have HRK := Lib.hid hrk
              clear h6 HN hrow hx1 hx2 hrk
              have HH : Hid (∀ i, i < pay.length → wr.cell? ⟨gP, i, none⟩ = some ((wr.cell? ⟨gP, i, none⟩).getD (.int .i64 0)) ∧ ((wr.cell? ⟨gP, i, none⟩).getD (.int .i64 0)).oneCell' = true) := fun i hi => by
                obtain ⟨b, off, A, C', e0, _, q1, _⟩ := Tab.at ht hi
                cases e0
                rw [Nat.zero_add] at q1
                rw [q1]
                exact ⟨rfl, rfl⟩
              go_wp2_with (first
                | (at_builtin; (refine appHeads (.tmp 65) (.tmp 66) (by rfl) rfl wr.heap.size (.slice (some ⟨wr.heap.size, 0, none⟩) 0 0) pay.length gP CP (fun i => (wr.cell? ⟨gP, i, none⟩).getD (.int .i64 0)) rfl (World.ownsRow_lit wr #[] 0 (Nat.le_refl _) (by decide) rfl) rfl (fun i hi => (((Below.refl wr.heap.size wr).alloc (Nat.le_refl _) _).cell (p := ⟨gP, i, none⟩) hbw).trans (HH.out i hi).1) (fun i hi => (HH.out i hi).2) (by omega) (by first | omega | (simp; done) | (simp; omega)) (by simp) ?_; intro L cL w5 own5 hL5 b5; replace b5 := Below.trans ((Below.refl _ _).alloc (Nat.le_refl _) _) b5; have h1 := (b5.cell (p := ⟨gP, k, none⟩) hbw).trans h1; have h1a := (fun o => (alloc_cell w5 o gP k (Nat.lt_of_lt_of_le hbw b5.size)).trans h1); have hi5 := h5.below b5))
                | (at_builtin; (refine appInts (.tmp 70) (.tmp 74) (by rfl) rfl w5.heap.size (.slice (some ⟨w5.heap.size, 0, none⟩) 0 0) [] row b2 off2 C' rfl (OwnZ.lit w5 _ (Nat.le_refl _)) rfl (hi5.alloc _) (by simp) (by omega) (by first | omega | (simp; done) | (simp; omega)) ?_; intro v' w6 ho6 b6 _ hn6 _; replace b6 := Below.trans ((Below.refl _ _).alloc (Nat.le_refl _) _) b6; obtain ⟨r, c6, rfl, hc6, hr6, hi6⟩ := OwnZ.form ho6 (fun e => by have := (hn6.1 e).1; simp at this); have hc6m := OwnZ.cap ho6; have hL6 := (own5.lt L rfl).2; have hLk := World.ownsRow.cells (ownsRow_below own5 b6) (g := L) rfl; have hLf := World.ownsRow.frozenAt (ownsRow_below own5 b6) k; have hLc := hLk k ((wr.cell? ⟨gP, k, none⟩).getD (.int .i64 0)) (by simp [hkl]); rw [Addr.add_lit, Nat.zero_add] at hLc; have hrf := World.ownsRow.frozenAt ho6 j))
                | fail)
              all_goals
                clear h1 h1a hi5 hn6
                obtain ⟨W7, hW7⟩ : ∃ W7, W7 = w6.setCell ⟨L, k, none⟩ (.slice (some ⟨r, 0, none⟩) row.length c6) := ⟨_, rfl⟩
                rw [← hW7]
                have HI6 : Ints w6 (some ⟨r, 0, none⟩) row := hi6
                obtain ⟨br, _, e9, hrw, hq⟩ := Ints.at HI6 hjr
                cases e9
                have hqj := hq j hjr
                rw [Nat.zero_add, HX2.out] at hqj
                have hrL : L ≠ r := by omega
                have f1 : W7.cell? ⟨L, k, none⟩ = some (.slice (some ⟨r, 0, none⟩) row.length c6) := by rw [hW7]; exact World.cell?_setCell_same _ _ _ hLc
                have f2 : W7.cell? ⟨r, j, none⟩ = some (.int .i64 x1) := by rw [hW7, World.cell?_setCell_other _ _ _ _ (by intro e; injection e with e1 e2; omega)]; exact hqj
                have f3 : W7.frozen? ⟨r, j, none⟩ = false := by rw [hW7, World.frozen?_setCell]; exact hrf
                obtain ⟨W8, hW8⟩ : ∃ W8, W8 = (W7.setCell ⟨r, j, none⟩ (.int .i64 (x1 - 1))).drew := ⟨_, rfl⟩
                have bW6 : Below wr.heap.size wr w6 := b5.trans (b6.mono b5.size)
                have bW7 : Below wr.heap.size wr W7 := by rw [hW7]; exact bW6.setCell (p := ⟨L, k, none⟩) hL5 _
                have bW8 : Below wr.heap.size wr W8 := by rw [hW8]; exact Below.drew (bW7.setCell (p := ⟨r, j, none⟩) (by show wr.heap.size ≤ r; have := b5.size; omega) _)
                have z8 : W8.heap.size = w6.heap.size := by rw [hW8, hW7]; simp [World.setCell, World.drew]
                have hc8 : ∀ p v, p ≠ ⟨r, j, none⟩ → W7.cell? p = some v → W8.cell? p = some v := fun p v h1 h2 => by
                  rw [hW8]
                  show (W7.setCell ⟨r, j, none⟩ (.int .i64 (x1 - 1))).cell? p = _
                  rw [World.cell?_setCell_other _ _ _ _ (by first | exact h1 | exact h1.symm)]; exact h2
                have hc7 : ∀ p v, p ≠ ⟨L, k, none⟩ → w6.cell? p = some v → W7.cell? p = some v := fun p v h1 h2 => by
                  rw [hW7, World.cell?_setCell_other _ _ _ _ (by first | exact h1 | exact h1.symm)]; exact h2
                have hT : Tab W8 (some ⟨L, 0, none⟩) (pay.set k (row.set j (x1 - 1))) := by
                  refine less_tab (c := c6) (r := r) ht hkl bW8 (by rw [z8]; have := b6.size; omega) (fun i hi hne => ?_) ?_ (by rw [List.length_set]; simpa using hc6) hc6m (by rw [List.length_set]; omega) ?_
                  · have q := hLk i _ (show ((List.range pay.length).map fun i => (wr.cell? ⟨gP, i, none⟩).getD (.int .i64 0))[i]? = some ((wr.cell? ⟨gP, i, none⟩).getD (.int .i64 0)) by simp [hi])
                    rw [Addr.add_lit, Nat.zero_add] at q
                    exact hc8 _ _ (by intro e; injection e with e1 e2; omega) (hc7 _ _ (by intro e; injection e with e1 e2; omega) q)
                  · rw [List.length_set]
                    exact hc8 _ _ (by intro e; injection e with e1 e2; omega) f1
                  · refine Ints.mk (by rw [z8]; exact hrw) fun q hql => ?_
                    rw [List.length_set] at hql
                    rw [nth_set hql, Nat.zero_add]
                    by_cases e : j = q
                    · subst e
                      rw [if_pos rfl, hW8]
                      exact World.cell?_setCell_same _ _ _ f2
                    · rw [if_neg e]
                      have := hq q hql
                      rw [Nat.zero_add] at this
                      exact hc8 _ _ (by intro e'; injection e' with e1 e2; omega) (hc7 _ _ (by intro e'; injection e' with e1 e2; omega) this)
                have g1 : W8.cell? ⟨gP, k, none⟩ = some (.slice (some ⟨b2, off2, none⟩) row.length C') := (bW8.cell (p := ⟨gP, k, none⟩) hbw).trans h1b
                have g2 : W8.cell? ⟨b2, off2 + j, none⟩ = some (.int .i64 x1) := (bW8.cell (p := ⟨b2, off2 + j, none⟩) hb2w).trans h6j
                have rg1 : gP ≠ r := by have := b5.size; omega
                have rg2 : b2 ≠ r := by have := b5.size; omega
                have k1 : W7.cell? ⟨gP, k, none⟩ = some (.slice (some ⟨b2, off2, none⟩) row.length C') := (bW7.cell (p := ⟨gP, k, none⟩) hbw).trans h1b
                have k2 : W7.cell? ⟨b2, off2 + j, none⟩ = some (.int .i64 x1) := (bW7.cell (p := ⟨b2, off2 + j, none⟩) hb2w).trans h6j
                replace hp := hp.below bW8
                replace ht := ht.below bW8
                replace hbt := hbt.trans (bW8.mono hbt.size)
                have hI9 : IntKind.i64.wrap (x1 - 1) = x1 - 1 := IntWalk.i64_in _ (by omega)
                have HW8 := Lib.hid hW8
                have G1 := Lib.hid g1
                have G2 := Lib.hid g2
                clear hc8 hc7 hq hqj hLk hLf hLc hrf hi6 HI6 own5 ho6 bW6 bW7 bW8 b5 b6 hW7 hW8 z8 h1b h6j h5 h3 h2 HH g1 g2
                go_still_tail 14, (by kernel_rfl)
                by_cases hx0' : 0 < x1
                · have hxb : decide ((0 : Int) < x1) = true := by simpa using hx0'
                  have hok := HL.out hx0'
                  go_wp2_with fail
                  rw [← HW8.out]
                  refine (payOk_at _ _ _ _ bs (pay.set k (row.set j (x1 - 1))) _ pay.length (by simp) (by omega) (by omega) hp hT).mono ?_
                  rintro e w9 ⟨rfl, b9⟩
                  rw [hok]
                  replace hp := hp.below b9
                  replace ht := ht.below b9
                  replace hbt := hbt.trans (b9.mono hbt.size)
                  clear b9 hT
                  go_wp2_with fail
                  go_roundw
                  case rel => exact ⟨j + 1, by omega, by go_num, hp, ht, hbt⟩
                  case measure => simp [intOf] <;> omega
                · have hxb : decide ((0 : Int) < x1) = false := by simpa using hx0'
                  go_wp2_with fail
                  rw [← HW8.out]
                  go_roundw
                  case rel => exact ⟨j + 1, by omega, by go_num, hp, ht, hbt⟩
                  case measure => simp [intOf] <;> omega
            · have hI1 : ¬ (j : Int) < (bs.length : Int) := by omega
              rw [hrk] at h1
              go_wp2_with fail
              go_roundw
              case rel => exact ⟨k + 1, by omega, by go_num, hp, ht, hbt⟩
              case measure => simp [intOf] <;> omega
        · go_wp2_with fail
          go_ret
          exact ⟨rfl, hbt⟩
end Go.Proofs.YtnjpifaphmeepaaDoor
