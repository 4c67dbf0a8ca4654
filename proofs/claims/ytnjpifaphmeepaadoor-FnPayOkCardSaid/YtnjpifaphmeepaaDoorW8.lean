/- Walk: impl.pitFlow, its first half: the network. -/
import Derived.Test.YtnjpifaphmeepaaDoorW7
import Derived.Test.YtnjpifaphmeepaaDoorAug
import Derived.StillTailTactics
import Derived.Deep.LoopGhost
namespace Go.Proofs.YtnjpifaphmeepaaDoor
open Go Go.RowKit

def capK (bs : List Blk) (k u v : Nat) : Int :=
  if u = bs.length ∧ v < k then pos (nth bs v).worth else if u < k ∧ v = bs.length + 1 then cost (nth bs u).worth else if u < k ∧ needsB bs u v = true then 161 else 0
def capKJ (bs : List Blk) (k j u v : Nat) : Int :=
  if u = bs.length ∧ v = k then pos (nth bs k).worth else if u = k ∧ v = bs.length + 1 then cost (nth bs k).worth else if u = k ∧ hasZ ((nth bs k).needs.take j) v = true then 161 else capK bs k u v

theorem needsB_lt {bs : List Blk} (hp : pitOk bs = true) {i j : Nat} (hi : i < bs.length) (h : needsB bs i j = true) : j < i := by
  simp only [needsB, hasZ, decide_eq_true_eq] at h
  obtain ⟨k, hk, e⟩ := List.getElem_of_mem h
  obtain ⟨y, hy, hlt⟩ := pitOk_need hp hi hk
  rw [nth_eq hk, e] at hy
  omega

theorem capK_zero (bs : List Blk) (u v : Nat) : capK bs 0 u v = 0 := by
  unfold capK; rw [if_neg (by omega), if_neg (by omega), if_neg (by omega)]
theorem capKJ_zero {bs : List Blk} {k : Nat} (hk : k < bs.length) (u v : Nat) : upd2 (upd2 (capK bs k) bs.length k (pos (nth bs k).worth)) k (bs.length + 1) (cost (nth bs k).worth) u v = capKJ bs k 0 u v := by
  unfold upd2 capKJ
  by_cases h1 : u = k ∧ v = bs.length + 1
  · rw [if_pos h1, if_neg (by omega), if_pos h1]
  · rw [if_neg h1]
    by_cases h2 : u = bs.length ∧ v = k
    · rw [if_pos h2, if_pos h2]
    · rw [if_neg h2, if_neg h2, if_neg h1, if_neg (by simp [hasZ])]
theorem capKJ_step {bs : List Blk} {k j y : Nat} (hk : k < bs.length) (hj : j < (nth bs k).needs.length) (hy : nth (nth bs k).needs j = (y : Int)) (hyk : y < k) (u v : Nat) :
    upd2 (capKJ bs k j) k y 161 u v = capKJ bs k (j + 1) u v := by
  unfold upd2
  have ht : hasZ ((nth bs k).needs.take (j + 1)) v = (hasZ ((nth bs k).needs.take j) v || decide (v = y)) := by
    rw [take_nth hj, hy]
    simp only [hasZ, List.mem_append, List.mem_singleton, Bool.decide_or]
    congr 1
    rw [decide_eq_decide]; omega
  by_cases h1 : u = k ∧ v = y
  · rw [if_pos h1]
    unfold capKJ
    rw [if_neg (by omega), if_neg (by omega), if_pos ⟨h1.1, by rw [ht]; simp [h1.2]⟩]
  · rw [if_neg h1]
    unfold capKJ
    by_cases h2 : u = k
    · have : v ≠ y := fun e => h1 ⟨h2, e⟩
      rw [ht]; simp [this]
    · simp [h2]
theorem capKJ_end {bs : List Blk} {k j u v : Nat} (hk : k < bs.length) (hj : (nth bs k).needs.length ≤ j) : capKJ bs k j u v = capK bs (k + 1) u v := by
  unfold capKJ capK
  rw [List.take_of_length_le hj]
  by_cases h1 : u = bs.length ∧ v = k
  · rw [if_pos h1, if_pos ⟨h1.1, by omega⟩, h1.2]
  rw [if_neg h1]
  by_cases h2 : u = k
  · subst h2
    by_cases h3 : v = bs.length + 1
    · rw [if_pos ⟨rfl, h3⟩, if_neg (by omega), if_pos ⟨by omega, h3⟩]
    · rw [if_neg (c := u = u ∧ v = bs.length + 1) (by omega), if_neg (c := u = bs.length ∧ v < u + 1) (by omega), if_neg (c := u < u + 1 ∧ v = bs.length + 1) (by omega)]
      by_cases h4 : hasZ (nth bs u).needs v = true
      · rw [if_pos ⟨rfl, h4⟩, if_pos ⟨by omega, h4⟩]
      · rw [if_neg (fun h => h4 h.2), if_neg (by omega), if_neg (by omega), if_neg (by omega), if_neg (fun h => h4 h.2)]
  · rw [if_neg (fun h => h2 h.1), if_neg (fun h => h2 h.1)]
    by_cases h3 : u = bs.length ∧ v < k
    · rw [if_pos h3, if_pos ⟨h3.1, by omega⟩]
    · rw [if_neg h3, if_neg (c := u = bs.length ∧ v < k + 1) (by omega)]
      by_cases h4 : u < k
      · simp only [h4, show u < k + 1 by omega, true_and]
      · simp only [h4, show ¬ u < k + 1 by omega, false_and]
theorem capK_all {bs : List Blk} (hp : pitOk bs = true) {u v : Nat} : capK bs bs.length u v = capOf bs u v := by
  unfold capK capOf
  by_cases h1 : u = bs.length ∧ v < bs.length
  · rw [if_pos h1, if_pos h1]
  rw [if_neg h1, if_neg h1]
  by_cases h2 : u < bs.length ∧ v = bs.length + 1
  · rw [if_pos h2, if_pos h2]
  rw [if_neg h2, if_neg h2]
  by_cases h3 : u < bs.length ∧ needsB bs u v = true
  · rw [if_pos h3, if_pos ⟨h3.1, by have := needsB_lt hp h3.1 h3.2; omega, h3.2⟩]
  · rw [if_neg h3, if_neg (fun h => h3 ⟨h.1, h.2.2⟩)]

theorem flow_start {bs : List Blk} : PitFlow bs (capOf bs) 0 := ⟨fun u v _ _ => cap_nonneg bs u v, fun _ _ _ _ => rfl, fun _ _ _ _ => rfl, by omega⟩
theorem cap_le {bs : List Blk} (hp : pitOk bs = true) (u v : Nat) : capOf bs u v ≤ 161 := by
  unfold capOf
  split
  · rename_i h; have := (pos_range (pitOk_worth hp h.2).2).2; omega
  · split
    · rename_i h; have := (cost_range (pitOk_worth hp h.1).1).2; omega
    · split <;> omega

set_option maxRecDepth 100000 in
set_option maxHeartbeats 2000000 in
theorem pitFlow_any (a : Option Addr) (c : Nat) (bs : List Blk) (w : World) (hs : Pit w a bs) (hp : pitOk bs = true) :
    Calls Tryd.prog 77 #[.slice a bs.length c] w fun e w' => ∃ (R : Nat → Nat → Int) (val : Int) (f : Nat → Int), e = .returned (.tuple #[.slice (some ⟨w.heap.size, 0, none⟩) (bs.length + 2) (bs.length + 2), .int .i64 val]) ∧
      MatAt w' w.heap.size (bs.length + 2) R ∧ PitFlow bs R val ∧ Bfs (bs.length + 2) bs.length R f ∧ f (bs.length + 1) < 0 ∧ w.heap.size + bs.length + 2 < w'.heap.size ∧ Below w.heap.size w w' := by
  have hl8 := pitOk_len hp
  go_enter Tryd.func77, Tryd.ntmps77
  go_wp2_with fail
  rw [show ((bs.length : Int) + 2) = ((bs.length + 2 : Nat) : Int) from by omega]
  refine (squareOf_any (bs.length + 2) w (by omega)).mono ?_
  rintro e w1 ⟨rfl, m1, b1, z1⟩
  have HZ1 := Lib.hid z1
  have hz1 : w.heap.size + bs.length + 2 < w1.heap.size := by omega
  clear z1
  go_wp2_with fail
  go_loopw [27] (fun i wr => ∃ (k : Nat), k ≤ bs.length ∧ i = .int .i64 k ∧ MatAt wr w.heap.size (bs.length + 2) (capK bs k) ∧ w.heap.size + bs.length + 2 < wr.heap.size ∧ Below w.heap.size w wr) (fun i _ => bs.length - (intOf i).toNat)
  case atStart => exact ⟨0, by omega, rfl, m1.congr fun u v _ _ => (capK_zero bs u v).symm, hz1, b1⟩
  case round =>
    obtain ⟨k, hk, rfl, hm, hz, hb⟩ := hrel
    by_cases hlt : k < bs.length
    · obtain ⟨b, off, A, C, rfl, hbw, e1, e2, e3, e4, e5, e6⟩ := Pit.at hs hlt
      rw [← hb.cell (p := ⟨b, _, none⟩) hbw] at e1 e2
      obtain ⟨hw1, hw2⟩ := pitOk_worth hp hlt
      go_wp2_with fail
      obtain ⟨W, hW⟩ : ∃ W, W = wr.alloc (.cells #[.int .i64 (nth bs k).worth, .slice A (nth bs k).needs.length C] 28) := ⟨_, rfl⟩
      have hmW : MatAt W w.heap.size (bs.length + 2) (capK bs k) := by rw [hW]; exact hm.below ((Below.refl _ _).alloc (Nat.le_refl _) _)
      have x1 : W.cell? ⟨wr.heap.size, 0, none⟩ = some (.int .i64 (nth bs k).worth) := by rw [hW]; simp
      have x2 : W.cell? ⟨wr.heap.size, 1, none⟩ = some (.slice A (nth bs k).needs.length C) := by rw [hW]; simp
      have hbW : Below w.heap.size w W := by rw [hW]; exact (by repeat (first | with_reducible assumption | exact Below.refl _ _ | refine below_drewN ?_ _ | refine Below.drew ?_ | refine Below.alloc ?_ (by first | omega | (simp; done) | (simp; omega)) _ | refine Below.setCell ?_ (by first | omega | (simp; done) | (simp; omega)) _))
      have hzW : wr.heap.size < W.heap.size := by rw [hW]; simp
      rw [← hW]
      clear hW hm hb e1 e2
      generalize wr.heap.size = X at *
      have r1 := hmW.1.cell (i := bs.length) (by omega)
      have r2 := (hmW.2 bs.length (by omega)).cell (i := k) (by omega)
      have r3 := (hmW.2 bs.length (by omega)).frozen k
      have r4 := hmW.1.cell (i := k) (by omega)
      have r5 := (hmW.2 k (by omega)).cell (i := bs.length + 1) (by omega)
      have r6 := (hmW.2 k (by omega)).frozen (bs.length + 1)
      have hI1 : (bs.length : Int) < (bs.length : Int) + 2 := by omega
      have hI2 : (k : Int) < (bs.length : Int) + 2 := by omega
      go_still_tail 9, (by kernel_rfl)
      go_wp2_with fail
      obtain ⟨W2, hW2⟩ : ∃ W2, W2 = (W.setCell ⟨w.heap.size + 1 + bs.length, k, none⟩ (.int .i64 (max (nth bs k).worth 0))).drew := ⟨_, rfl⟩
      have hm2 : MatAt W2 w.heap.size (bs.length + 2) (upd2 (capK bs k) bs.length k (pos (nth bs k).worth)) := by
        rw [hW2]; exact MatAt.below (MatAt.set hmW (by omega) _) (by repeat (first | with_reducible assumption | exact Below.refl _ _ | refine below_drewN ?_ _ | refine Below.drew ?_ | refine Below.alloc ?_ (by first | omega | (simp; done) | (simp; omega)) _ | refine Below.setCell ?_ (by first | omega | (simp; done) | (simp; omega)) _))
      have y1 : W2.cell? ⟨X, 0, none⟩ = some (.int .i64 (nth bs k).worth) := by rw [hW2]; show (W.setCell _ _).cell? _ = _; rw [World.cell?_of_block (a := ⟨X, _, none⟩) (Below.heap_setCell _ _ _ X (by show X ≠ w.heap.size + 1 + bs.length; omega))]; exact x1
      have y2 : W2.cell? ⟨X, 1, none⟩ = some (.slice A (nth bs k).needs.length C) := by rw [hW2]; show (W.setCell _ _).cell? _ = _; rw [World.cell?_of_block (a := ⟨X, _, none⟩) (Below.heap_setCell _ _ _ X (by show X ≠ w.heap.size + 1 + bs.length; omega))]; exact x2
      have hb2 : Below w.heap.size w W2 := by rw [hW2]; exact (hbW.setCell (by show _ ≤ w.heap.size + 1 + bs.length; omega) _).drew
      have hz2 : X < W2.heap.size := by rw [hW2]; simpa [World.setCell] using hzW
      rw [← hW2]
      clear hW2 hmW r1 r2 r3 r4 r5 r6 x1 x2 hbW hzW
      have r4 := hm2.1.cell (i := k) (by omega)
      have r5 := (hm2.2 k (by omega)).cell (i := bs.length + 1) (by omega)
      have r6 := (hm2.2 k (by omega)).frozen (bs.length + 1)
      have hI3 : (bs.length : Int) + 1 < (bs.length : Int) + 2 := by omega
      have hI4 : 0 ≤ (bs.length : Int) + 1 := by omega
      have hI5 : ((bs.length : Int) + 1).toNat = bs.length + 1 := by omega
      have hI6 : (bs.length : Int) + 1 - (bs.length : Int) = 1 := by omega
      go_still_tail 10, (by kernel_rfl)
      go_wp2_with fail
      obtain ⟨W3, hW3⟩ : ∃ W3, W3 = (W2.setCell ⟨w.heap.size + 1 + k, bs.length + 1, none⟩ (.int .i64 (max (-(nth bs k).worth) 0))).drew := ⟨_, rfl⟩
      have hm3 : MatAt W3 w.heap.size (bs.length + 2) (capKJ bs k 0) := by
        rw [hW3]; exact (MatAt.below (MatAt.set hm2 (i := k) (j := bs.length + 1) (by omega) (cost (nth bs k).worth)) (below_drewN (Below.refl _ _) 1)).congr fun u v _ _ => capKJ_zero hlt u v
      have hb3 : Below w.heap.size w W3 := by rw [hW3]; exact (hb2.setCell (by show _ ≤ w.heap.size + 1 + k; omega) _).drew
      have hz3 : X < W3.heap.size := by rw [hW3]; simpa [World.setCell] using hz2
      rw [← hW3]
      clear hW3 hm2 r4 r5 r6 y1 y2 hb2 hz2
      go_loopw [54] (fun jj wi => ∃ (j : Nat), j ≤ (nth bs k).needs.length ∧ jj = .int .i64 j ∧ MatAt wi w.heap.size (bs.length + 2) (capKJ bs k j) ∧ X < wi.heap.size ∧ Below w.heap.size w wi) (fun jj _ => (nth bs k).needs.length - (intOf jj).toNat)
      case atStart => exact ⟨0, by omega, rfl, hm3, hz3, hb3⟩
      case round =>
        obtain ⟨j, hj, rfl, hm, hz4, hb⟩ := hrel
        by_cases hlt2 : j < (nth bs k).needs.length
        · obtain ⟨b3, off3, rfl, hbw3, hc⟩ := Ints.at e6 hlt2
          have f1 := hc j hlt2
          obtain ⟨y, hy, hyk⟩ := pitOk_need hp hlt hlt2
          have hst := fun u v => capKJ_step hlt hlt2 hy hyk u v
          have HST := Lib.hid hst
          rw [hy, ← hb.cell (p := ⟨b3, _, none⟩) hbw3] at f1
          clear hc hst hy
          have r4 := hm.1.cell (i := k) (by omega)
          have r5 := (hm.2 k (by omega)).cell (i := y) (by omega)
          have r6 := (hm.2 k (by omega)).frozen y
          go_wp2
          go_roundw
          case rel => exact ⟨j + 1, by omega, by go_num, (MatAt.set hm (i := k) (j := y) (by omega) 161).congr fun u v _ _ => HST.out u v, by simpa [World.setCell] using hz4, hb.setCell (by show _ ≤ w.heap.size + 1 + k; omega) _⟩
          case measure => simp [intOf] <;> omega
        · go_wp2
          go_roundw
          case rel => exact ⟨k + 1, by omega, by go_num, hm.congr fun u v _ _ => capKJ_end hlt (by omega), by omega, hb⟩
          case measure => simp [intOf] <;> omega
    · have hkn : k = bs.length := by omega
      subst hkn
      have hm0 : MatAt wr w.heap.size (bs.length + 2) (capOf bs) := hm.congr fun u v _ _ => capK_all hp
      clear hm
      go_wp2_with fail
      go_loopw [11] (fun flow wf => ∃ (R : Nat → Nat → Int) (val : Int), flow = .int .i64 val ∧ MatAt wf w.heap.size (bs.length + 2) R ∧ PitFlow bs R val ∧ 0 ≤ val ∧ w.heap.size + bs.length + 2 < wf.heap.size ∧ Below w.heap.size w wf) (fun flow _ => (160 - intOf flow).toNat)
      case atStart => exact ⟨capOf bs, 0, rfl, hm0, flow_start, by omega, hz, hb⟩
      case round =>
        obtain ⟨R, val, rfl, hm, hfl, hv0, hz2, hb2⟩ := hrel
        have hv1 := flow_le hp hfl
        clear hz hb hm0
        go_wp2_with fail
        refine (reachedFrom_any w.heap.size (bs.length + 2) bs.length R wr (by omega) (by omega) hm (by omega)).mono ?_
        rintro e w2 ⟨f, rfl, o2, hB, b2⟩
        have hm2 := hm.below b2
        have hcf := o2.lt
        have hb3 : Below w.heap.size w w2 := hb2.trans (b2.mono (by omega))
        generalize hcfe : wr.heap.size = cf at *
        have c1 := o2.cell (i := bs.length + 1) (by omega)
        have hI3 : (bs.length : Int) + 1 < (bs.length : Int) + 2 := by omega
        have hI4 : 0 ≤ (bs.length : Int) + 1 := by omega
        have hI5 : ((bs.length : Int) + 1).toNat = bs.length + 1 := by omega
        by_cases hft : f (bs.length + 1) < 0
        · go_wp2_with fail
          go_ret2
          exact ⟨R, val, f, rfl, hm2, hfl, hB, hft, by omega, (by repeat (first | with_reducible assumption | exact Below.refl _ _ | refine below_drewN ?_ _ | refine Below.drew ?_ | refine Below.alloc ?_ (by first | omega | (simp; done) | (simp; omega)) _ | refine Below.setCell ?_ (by first | omega | (simp; done) | (simp; omega)) _))⟩
        · have hft2 : 0 ≤ f (bs.length + 1) := by omega
          obtain ⟨rk, l0, hway⟩ := hB.way (t := bs.length + 1) (by omega) hft2
          have hlen := hway.len (by omega)
          have hfree := minWay_pos (c := 160) hway (by omega)
          have hfree2 := minWay_le R ((bs.length + 1) :: l0) 160
          obtain ⟨F, hF⟩ : ∃ F, F = minWay R 160 ((bs.length + 1) :: l0) := ⟨_, rfl⟩
          rw [← hF] at hfree hfree2
          have HF := Lib.hid hF
          clear hF
          have hRb : ∀ p q, p < bs.length + 2 → q < bs.length + 2 → 0 ≤ R p q ∧ R p q ≤ 322 := fun p q hp1 hq1 => ⟨hfl.nonneg p q hp1 hq1, by have := hfl.both p q hp1 hq1; have := hfl.nonneg q p hq1 hp1; have := cap_le hp p q; have := cap_le hp q p; omega⟩
          have HR := Lib.hid hRb
          clear hRb
          go_wp2_with fail
          go_loopg [13, 14] (bs.length + 2) (fun gk x y wi => ∃ (v : Nat) (l : List Nat) (x' : Int), x = .int .i64 x' ∧ y = .int .i64 v ∧ 0 < x' ∧ x' ≤ 160 ∧ IsWay (bs.length + 2) bs.length R f rk (v :: l) ∧ Hid (F = minWay R x' (v :: l)) ∧ l.length ≤ gk ∧ wi = w2)
          case atStart => exact ⟨bs.length + 1, l0, 160, rfl, rfl, by omega, by omega, hway, HF, by omega, by trivial⟩
          case round =>
            obtain ⟨v, l, x, rfl, rfl, hx0, hx1, hw, HM, hgk, rfl⟩ := hrel
            have hI7 : w.heap.size < w.heap.size + 1 := by omega
            by_cases hvs : v = bs.length
            · subst hvs
              have hxF : x = F := by
                cases l with
                | nil => exact HM.out.symm
                | cons u l => exact absurd rfl hw.1
              subst hxF
              clear hm hw HM
              go_wp2_with fail
              go_loopg [15] (bs.length + 2) (fun gk y wi => ∃ (v : Nat) (l : List Nat) (R' : Nat → Nat → Int), y = .int .i64 v ∧ MatAt wi w.heap.size (bs.length + 2) R' ∧ OwnI wi cf (bs.length + 2) f ∧ IsWay (bs.length + 2) bs.length R f rk (v :: l) ∧ Hid (augWay x R ((bs.length + 1) :: l0) = augWay x R' (v :: l)) ∧
                Hid (∀ p q, p < bs.length + 2 → q < bs.length + 2 → -(1600 - 160 * (l.length : Int)) ≤ R' p q ∧ R' p q ≤ 2000 - 160 * (l.length : Int)) ∧ l.length ≤ 9 ∧ l.length ≤ gk ∧ cf < wi.heap.size ∧ Below w.heap.size w wi)
              case atStart => exact ⟨bs.length + 1, l0, R, rfl, hm2, o2, hway, Lib.hid rfl, Lib.hid fun p q hp1 hq1 => by have := HR.out p q hp1 hq1; omega, by omega, by omega, hcf, hb3⟩
              case round =>
                clear hm2 o2 hcf hb3 c1 b2
                obtain ⟨v, l, R', rfl, hm2, o2, hw, HA, HB, hl9, hgk, hcf, hb3⟩ := hrel
                by_cases hvs : v = bs.length
                · subst hvs
                  have hlnil : augWay x R ((bs.length + 1) :: l0) = R' := by
                    cases l with
                    | nil => exact HA.out
                    | cons u l => exact absurd rfl hw.1
                  have hfl2 := Flow.aug hfl (by omega) (by omega) hfree hway (c := 160) (Int.le_of_eq HF.out)
                  rw [hlnil] at hfl2
                  have hv2 := flow_le hp hfl2
                  clear hw HA HB hlnil
                  go_wp2
                  go_roundw
                  case rel => exact ⟨R', val + x, by go_num, hm2, hfl2, by omega, by omega, hb3⟩
                  case measure => simp [intOf] <;> omega
                · cases l with
                  | nil => exact absurd hw hvs
                  | cons u l =>
                    obtain ⟨_, hv, hu, hfu, hRu, hrk, hw⟩ := hw
                    simp only [List.length_cons] at hgk hl9 HB
                    have huv : u ≠ v := by intro e; subst e; omega
                    have d1 := o2.cell hv
                    rw [hfu] at d1
                    have d2 := hm2.1.cell hu
                    have d3 := (hm2.2 u hu).cell hv
                    have d5 := (hm2.2 u hu).frozen v
                    have d4 := HB.out u v hu hv
                    have d6 := HB.out v u hv hu
                    have hvs2 : (v : Int) ≠ (bs.length : Int) := by omega
                    go_wp2_with fail
                    obtain ⟨W, hW⟩ : ∃ W, W = wr.setCell ⟨w.heap.size + 1 + u, v, none⟩ (.int .i64 (R' u v - x)) := ⟨_, rfl⟩
                    have hmW : MatAt W w.heap.size (bs.length + 2) (upd2 R' u v (R' u v - x)) := by rw [hW]; exact hm2.set hu _
                    have oW : OwnI W cf (bs.length + 2) f := by rw [hW]; exact World.rowIs.setOther o2 (by show cf ≠ _; simp; omega) _
                    have bW : Below w.heap.size w W := by rw [hW]; exact hb3.setCell (by show _ ≤ w.heap.size + 1 + u; omega) _
                    have zW : cf < W.heap.size := by rw [hW]; simpa [World.setCell] using hcf
                    rw [← hW]
                    clear hW hm2 o2 hb3 hcf d1 d2 d3 d5
                    have e1 : upd2 R' u v (R' u v - x) v u = R' v u := by unfold upd2; rw [if_neg (by omega)]
                    have d1 := oW.cell hv
                    rw [hfu] at d1
                    have d2 := hmW.1.cell hv
                    have d3 := (hmW.2 v hv).cell hu
                    rw [e1] at d3
                    have d5 := (hmW.2 v hv).frozen u
                    have hI8 : (v : Int) < (bs.length : Int) + 2 := by omega
                    have hI9 : (u : Int) < (bs.length : Int) + 2 := by omega
                    go_still_tail 13, (by kernel_rfl)
                    go_wp2
                    go_roundg (gk - 1)
                    case rel =>
                      refine ⟨u, l, augStep x R' u v, rfl, ?_, ?_, hw, HA, Lib.hid fun p q hp1 hq1 => ?_, by omega, by omega, by simpa [World.setCell] using zW, ?_⟩
                      · show MatAt _ _ _ (upd2 (upd2 R' u v (R' u v - x)) v u (upd2 R' u v (R' u v - x) v u + x))
                        rw [e1]; exact hmW.set hv _
                      · exact World.rowIs.setOther oW (by show cf ≠ _; simp; omega) _
                      · have := HB.out p q hp1 hq1
                        rw [augStep_eq huv]
                        split
                        · omega
                        · split <;> omega
                      · exact (bW.setCell (p := ⟨w.heap.size + 1 + v, u, none⟩) (by show _ ≤ w.heap.size + 1 + v; omega) _).drew
                    case measure => omega
            · cases l with
              | nil => exact absurd hw hvs
              | cons u l =>
                obtain ⟨_, hv, hu, hfu, hRu, hrk, hw⟩ := hw
                simp only [List.length_cons] at hgk
                have d1 := o2.cell hv
                rw [hfu] at d1
                have d2 := hm2.1.cell hu
                have d3 := (hm2.2 u hu).cell hv
                have d4 := HR.out u v hu hv
                have hvs2 : (v : Int) ≠ (bs.length : Int) := by omega
                go_wp2
                go_roundg (gk - 1)
                case rel => exact ⟨u, l, min x (R u v), by go_num, rfl, by omega, by omega, hw, HM, by omega, rfl⟩
                case measure => omega
end Go.Proofs.YtnjpifaphmeepaaDoor
