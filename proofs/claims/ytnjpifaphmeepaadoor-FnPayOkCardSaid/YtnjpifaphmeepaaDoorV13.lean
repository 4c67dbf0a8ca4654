/- The law FnPaySum, walked. -/
import Derived.Test.YtnjpifaphmeepaaDoorPayC
import Derived.Test.YtnjpifaphmeepaaDoorD3
namespace Go.Proofs.YtnjpifaphmeepaaDoor
open Go Go.RowKit

theorem PayC.inv {bs : List Blk} {pay : List (List Int)} (h : PayC bs pay) : PayInv bs (Mof pay) where
  nonneg k j hk hj := (h.num k j hk hj).1
  edge k j hk hj h0 := by
    have h1 := sumN_term (f := Mof pay k) (fun i hi => (h.num k i hk hi).1) j hj
    have h2 := h.out k hk
    have h3 := sumN_term (f := fun k => Mof pay k j) (fun i hi => (h.num i j hi hj).1) k hk
    have h4 := h.get j hj
    refine ⟨(h.num k j hk hj).2 h0, ?_, ?_⟩
    · unfold wth; unfold pos at h2; omega
    · unfold wth; unfold cost pos at h4; change Mof pay k j ≤ _ at h3; omega
  row k hk := h.out k hk
  col j hj := h.get j hj
theorem pay_le_most {bs : List Blk} (hp : pitOk bs = true) {pay : List (List Int)} (h : PayC bs pay) : payTotal bs (Mof pay) ≤ payMostF bs := by
  obtain ⟨m, e, hm⟩ := best_is hp
  have h1 := h.inv.le_cut ((may_closed hp).1 hm.may)
  have h2 : payMostF bs = cutS bs m.testBit := by unfold payMostF; rw [if_pos hp, e, Int.toNat_natCast]
  omega
theorem Mof_zero {n k j : Nat} (hk : k < n) (hj : j < n) : Mof (rowsK (fun _ _ => 0) n n) k j = 0 := by
  unfold Mof; rw [rowsK_nth _ hk]; simp [nth, hj]
theorem none_ok (bs : List Blk) : PayC bs (rowsK (fun _ _ => 0) bs.length bs.length) where
  len := rowsK_len _ _ _
  row k hk := by rw [rowsK_nth _ hk]; simp
  num k j hk hj := by rw [Mof_zero hk hj]; exact ⟨Int.le_refl _, fun h => absurd h (by omega)⟩
  out k hk := by
    rw [(sumN_congr (fun j hj => Mof_zero hk hj) : sumN (Mof (rowsK (fun _ _ => 0) bs.length bs.length) k) bs.length = sumN (fun _ => 0) bs.length), sumN_zero]
    unfold pos; omega
  get j hj := by
    rw [(sumN_congr (fun k hk => Mof_zero hk hj) : sumN (fun k => Mof (rowsK (fun _ _ => 0) bs.length bs.length) k j) bs.length = sumN (fun _ => 0) bs.length), sumN_zero]
    unfold cost pos; omega
theorem none_sum {bs : List Blk} (hp : pitOk bs = true) : paySumF bs (rowsK (fun _ _ => 0) bs.length bs.length) = 0 := by
  have h := none_ok bs
  unfold paySumF
  rw [if_pos ((payOk_iff hp _).2 h), h.total]
  refine (sumN_congr fun k hk => ?_).trans (sumN_zero _)
  exact (sumN_congr fun j hj => Mof_zero hk hj).trans (sumN_zero _)
theorem paySumF_of {bs : List Blk} {pay : List (List Int)} (h : payOkF bs pay = true) : pitOk bs = true ∧ PayC bs pay ∧ paySumF bs pay = payTotal bs (Mof pay) ∧ 0 ≤ paySumF bs pay ∧ paySumF bs pay ≤ payMostF bs := by
  have hp := (payOk_num h).1
  have hc := (payOk_iff hp pay).1 h
  have e : paySumF bs pay = payTotal bs (Mof pay) := by unfold paySumF; rw [if_pos h, hc.total]
  refine ⟨hp, hc, e, ?_, by rw [e]; exact pay_le_most hp hc⟩
  rw [e]
  exact sumN_nonneg fun k hk => sumN_nonneg fun j hj => (hc.num k j hk hj).1
theorem paySum_at (a1 a2 : Option Addr) (c1 c2 : Nat) (bs : List Blk) (pay : List (List Int)) (w : World) (N2 : Nat) (e2 : pay.length = N2) (hl : bs.length ≤ 1048576) (hl2 : N2 ≤ 1048576) (hs : Pit w a1 bs) (ht : Tab w a2 pay) :
    Calls Tryd.prog 46 #[.slice a1 bs.length c1, .slice a2 N2 c2] w fun e w' => e = .returned (.int .i64 (paySumF bs pay)) ∧ Below w.heap.size w w' := by
  subst e2
  exact paySum_any a1 a2 c1 c2 bs pay w hl hl2 hs ht

set_option maxRecDepth 100000 in
set_option maxHeartbeats 1000000 in
theorem lawPaySum (a : Option Addr) (n c : Nat) (w : World) (hc : n ≤ c) (hn : n ≤ 9223372036854775807) (hb : n ≤ 1048576 → Bytes w a n) (hpw : Pow w) :
    Calls Tryd.prog 15 #[.slice a n c] w fun e w' => e = .returned (.bool true) ∧ Below w.heap.size w w' := by
  by_cases hbig : 1048576 < n
  · go_enter Tryd.func15, Tryd.ntmps15
    go_wp2_with fail
    go_ret
    exact ⟨rfl, (by repeat (first | with_reducible assumption | exact Below.refl _ _ | refine below_drewN ?_ _ | refine Below.drew ?_ | refine Below.alloc ?_ (by first | omega | (simp; done) | (simp; omega)) _ | refine Below.setCell ?_ (by first | omega | (simp; done) | (simp; omega)) _))⟩
  replace hb := hb (by omega)
  go_enter Tryd.func15, Tryd.ntmps15
  go_wp2_with fail
  refine (drawPaySum_any a n c w hc (by omega) hb).mono ?_
  rintro e w1 ⟨bs, pay, g, C, gP, CP, rfl, h9, h10, hC, hCP, hp, ht, hbt⟩
  clear hb
  go_wp2_with fail
  refine (paySum_any _ _ _ _ bs pay _ (by omega) (by omega) hp ht).mono ?_
  rintro e w2 ⟨rfl, bN⟩
  replace hp := hp.below bN
  replace ht := ht.below bN
  replace hbt := hbt.trans (bN.mono hbt.size)
  clear bN
  go_wp2_with fail
  refine (spaySum_any _ _ _ _ bs pay _ (by omega) (by omega) hp ht).mono ?_
  rintro e w2 ⟨rfl, bN⟩
  replace hp := hp.below bN
  replace ht := ht.below bN
  replace hbt := hbt.trans (bN.mono hbt.size)
  clear bN
  cases hok : payOkF bs pay
  · have e1 : paySumF bs pay = -1 := by simp [paySumF, hok]
    rw [e1]
    clear e1
    go_wp2_with fail
    refine (alive_any _ (hpw.below hbt)).mono ?_
    rintro e w2 ⟨rfl, bN⟩
    replace hp := hp.below bN
    replace hbt := hbt.trans (bN.mono hbt.size)
    clear bN
    go_wp2_with fail
    go_ret
    exact ⟨rfl, hbt⟩
  obtain ⟨hpok, _, _, hx0, hx1⟩ := paySumF_of hok
  have hns := none_sum hpok
  have hm := (payMostF_eq hpok).2.2.2.1
  generalize paySumF bs pay = x at hx0 hx1 ⊢
  go_wp2_with fail
  obtain ⟨W0, hW0⟩ : ∃ W0, W0 = w2.alloc (.cells #[] 26) := ⟨_, rfl⟩
  have b0 : Below w2.heap.size w2 W0 := by rw [hW0]; exact (Below.refl _ _).alloc (Nat.le_refl _) _
  have t0 : PayU W0 w2.heap.size (.slice (some ⟨w2.heap.size, 0, none⟩) 0 0) (fun _ => 0) 0 bs.length (fun _ _ => 0) := by rw [hW0]; exact PayU.start w2 _ _ _ _ (Nat.le_refl _)
  rw [← hW0]
  clear hW0 ht
  go_loopw [6, 7] (fun none kk wr => ∃ (k : Nat) (v : Value) (gs : Nat → Nat), k ≤ bs.length ∧ kk = .int .i64 k ∧ none = v ∧ PayU wr w2.heap.size v gs k bs.length (fun _ _ => 0) ∧ Below w2.heap.size w2 wr) (fun _ kk _ => bs.length - (intOf kk).toNat)
  case atStart => exact ⟨0, _, _, by omega, rfl, rfl, t0, b0⟩
  case round =>
    clear b0 t0
    obtain ⟨k, v, gs, hk, rfl, rfl, ht, hb⟩ := hrel
    obtain ⟨p, cv, rfl, hcv, hpK, hpw'⟩ := ht.form
    by_cases hlt : k < bs.length
    · have hmk := mkInts bs.length (by omega)
      have hz := hb.size
      have hI : (k : Int) < (bs.length : Int) := by omega
      go_wp2_with (at_builtin; (refine appRow (.tmp 38) (.tmp 42) (by rfl) rfl w2.heap.size (.slice (some ⟨p, 0, none⟩) k cv) _ k (.slice (some ⟨wr.heap.size, 0, none⟩) bs.length bs.length) (wr.heap.size + 1) 1 rfl ((ht.below (((Below.refl _ _).alloc (Nat.le_refl _) _).alloc (by first | omega | (simp; done) | (simp; omega)) _)).own) rfl (one_cell _ _ _ _ (by simp)) rfl (by omega) (by first | omega | (simp; done) | (simp; omega)) ?_; intro v' w5 hown5 b5 hg5 hn5 hat5; replace b5 := hb.trans (Below.trans (((Below.refl _ _).alloc hz _).alloc (by first | omega | (simp; done) | (simp; omega)) _) b5); obtain ⟨gs', st5⟩ := ht.more _ hz (fun _ => rfl) hg5 hown5 hn5 hat5; clear hg5 hown5 hn5 hat5 ht hmk hb hpw' hcv hpK hz))
      go_roundw
      case rel => exact ⟨k + 1, v', gs', by omega, by go_num, rfl, st5, b5⟩
      case measure => simp [intOf] <;> omega
    · have hI : ¬ (k : Int) < (bs.length : Int) := by omega
      obtain rfl : k = bs.length := by omega
      have htab := ht.tab (by omega)
      replace hp := hp.below hb
      replace hbt := hbt.trans (hb.mono hbt.size)
      clear ht hb hpw' hpK
      go_wp2_with fail
      refine (payMost_any _ _ bs _ (by omega) hp).mono ?_
      rintro e w3 ⟨rfl, bN⟩
      replace hp := hp.below bN
      replace htab := htab.below bN
      replace hbt := hbt.trans (bN.mono hbt.size)
      clear bN
      have hle : decide (x ≤ payMostF bs) = true := by simpa using hx1
      generalize payMostF bs = y at hx1 hm hle
      go_wp2_with fail
      refine (paySum_at _ _ _ _ bs (rowsK (fun _ _ => 0) bs.length bs.length) _ bs.length (rowsK_len _ _ _) (by omega) (by omega) hp htab).mono ?_
      rintro e w4 ⟨rfl, bN⟩
      replace hbt := hbt.trans (bN.mono hbt.size)
      rw [hns]
      go_wp2_with fail
      go_ret
      exact ⟨rfl, hbt⟩
end Go.Proofs.YtnjpifaphmeepaaDoor
