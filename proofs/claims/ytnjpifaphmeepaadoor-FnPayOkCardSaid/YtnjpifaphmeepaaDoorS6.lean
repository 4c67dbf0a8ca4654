/- Walks over the reference: spec.PayMost. -/
import Derived.Test.YtnjpifaphmeepaaDoorPayM
import Derived.StillTailTactics
namespace Go.Proofs.YtnjpifaphmeepaaDoor
open Go Go.RowKit

theorem total_range {bs : List Blk} {M : Nat → Nat → Int} (hp : pitOk bs = true) (h : PayInv bs M) : 0 ≤ payTotal bs M ∧ payTotal bs M ≤ 160 := by
  refine ⟨sumN_nonneg fun k hk => sumN_nonneg fun j hj => h.nonneg k j hk hj, ?_⟩
  have h1 : payTotal bs M ≤ 20 * bs.length := sumN_le_const fun k hk => Int.le_trans (h.row k hk) (pos_range (pitOk_worth hp hk).2).2
  have := pitOk_len hp
  omega
theorem Ints.other {w : World} {b o : Nat} {xs : List Int} (h : Ints w (some ⟨b, o, none⟩) xs) {c j : Nat} (hne : b ≠ c) (v : Value) : Ints (w.setCell ⟨c, j, none⟩ v) (some ⟨b, o, none⟩) xs := by
  rcases h with e | ⟨b', off, e, hb, h⟩
  · exact .inl e
  · cases e
    exact .inr ⟨b, o, rfl, by simpa [World.setCell] using hb, fun k hk => (World.cell?_setCell_other _ _ _ _ (by simp [hne])).trans (h k hk)⟩
theorem augOne_range {n : Nat} {M : Nat → Nat → Int} {way : List Nat} {i : Nat} (h : ∀ a b, a < n → b < n → -(i : Int) ≤ M a b ∧ M a b ≤ 20 + i) (hw : ∀ x ∈ way, x < n) (hi : i < way.length) (h1 : 1 ≤ i) : ∀ a b, a < n → b < n → -((i + 1 : Nat) : Int) ≤ augOne M way i a b ∧ augOne M way i a b ≤ 20 + ((i + 1 : Nat) : Int) := by
  intro a b ha hb
  have w0 := hw _ (nth_mem (xs := way) (k := i - 1) (by omega))
  have w1 := hw _ (nth_mem (xs := way) (k := i) hi)
  have h2 := h _ _ w0 w1
  have h3 := h _ _ w1 w0
  have h4 := h a b ha hb
  unfold augOne
  split <;> (unfold upd2; split <;> omega)

set_option maxRecDepth 100000 in
set_option maxHeartbeats 4000000 in
theorem sPayMost_any (a : Option Addr) (c : Nat) (bs : List Blk) (w : World) (hl : bs.length ≤ 1048576) (hs : Pit w a bs) :
    Calls Tryd.prog 63 #[.slice a bs.length c] w fun e w' => e = .returned (.int .i64 (payMostF bs)) ∧ Below w.heap.size w w' := by
  cases hp : pitOk bs
  · go_enter Tryd.func63, Tryd.ntmps63
    go_wp2_with (go_at_call 19; refine (spitValid_any _ _ _ _ hl hs).mono ?_; rintro e w' ⟨rfl, q, rfl⟩)
    go_ret
    exact ⟨by simp [payMostF, hp], (by repeat (first | with_reducible assumption | exact Below.refl _ _ | refine below_drewN ?_ _ | refine Below.drew ?_ | refine Below.alloc ?_ (by first | omega | (simp; done) | (simp; omega)) _ | refine Below.setCell ?_ (by first | omega | (simp; done) | (simp; omega)) _))⟩
  have hl8 := pitOk_len hp
  obtain ⟨F, hF⟩ : ∃ F, F = fullN bs bs.length := ⟨_, rfl⟩
  have hFF : fullF bs = F := by rw [hF]; simp [fullF, hp]
  have HFin : Hid (∀ M X, PaySt F M X F.length 0 → payTotal F M = payMostF bs) := by
    intro M X s; rw [hF] at s ⊢; rw [fullN_len] at s; exact payMost_spec hp s
  have hpF : pitOk F = true := by rw [hF]; exact fullN_ok hp
  have hlF : F.length ≤ 8 := pitOk_len hpF
  have HFF := Lib.hid hFF
  clear hFF hF
  go_enter Tryd.func63, Tryd.ntmps63
  go_wp2_with (go_at_call 19; refine (spitValid_any _ _ _ _ hl hs).mono ?_; rintro e w1 ⟨rfl, q1, rfl⟩)
  refine (sFull_any _ _ _ _ hl (hs.drewN q1)).mono ?_
  rintro e w2 ⟨gF, CF, rfl, hCF, hPF, b2⟩
  rw [HFF.out] at hCF hPF ⊢
  have b3 : Below w.heap.size w w2 := (below_drewN (Below.refl _ _) q1).trans b2
  clear b2 hs
  have hst := MkSt.start w2 F.length
  have bs0 : Below w2.heap.size w2 ((w2.alloc (.cells #[] 26)).alloc (.cells #[] 3)) := ((Below.refl _ _).alloc (Nat.le_refl _) _).alloc (by simp) _
  go_wp2_with fail
  generalize (w2.alloc (.cells #[] 26)).alloc (.cells #[] 3) = W0 at hst bs0
  have hmk := mkInts F.length (by omega)
  have HMK := Lib.hid hmk
  clear hmk
  go_loopw [4, 5, 6] (fun v q i wr => ∃ (k : Nat) (gs : Nat → Nat), k ≤ F.length ∧ i = .int .i64 k ∧ MkSt wr w2.heap.size v q gs k F.length ((List.range k).map fun i => cost (wth F i)) ∧ Below w2.heap.size w2 wr) (fun _ _ i _ => F.length - (intOf i).toNat)
  case atStart => exact ⟨0, _, by omega, rfl, hst, bs0⟩
  case round =>
    clear hst bs0
    obtain ⟨k, gs, hk, rfl, hst, hb⟩ := hrel
    obtain ⟨⟨p, cv, rfl, _⟩, ⟨r, cq, rfl, _⟩⟩ := hst.form
    have hlenr : ((List.range k).map fun i => cost (wth F i)).length = k := by simp
    rw [hlenr] at hst ⊢
    have hz := hb.size
    by_cases hlt : k < F.length
    · obtain ⟨b, off, A, C, e0, hbw, h1, h2, h3, h4, h5, h6⟩ := Pit.at hPF hlt
      cases e0
      rw [Nat.zero_add] at h1
      clear h2 h3 h4 h5 h6
      obtain ⟨hw1, hw2⟩ := pitOk_worth hpF hlt
      have HW : Hid (wth F k = (nth F k).worth) := rfl
      generalize (nth F k).worth = wk at h1 hw1 hw2 HW
      obtain ⟨cs, hcs⟩ : ∃ cs, (List.range k).map (fun i => cost (wth F i)) = cs := ⟨_, rfl⟩
      rw [hcs] at hst hlenr
      have HCS := Lib.hid hcs
      have HLR := Lib.hid hlenr
      clear hcs hlenr
      have hmk := HMK.out
      go_wp2_with (first
        | (at_builtin; (refine appRow (.tmp 25) (.tmp 29) (by rfl) rfl w2.heap.size (.slice (some ⟨p, 0, none⟩) k cv) _ k (.slice (some ⟨wr.heap.size, 0, none⟩) F.length F.length) (wr.heap.size + 1) 1 rfl (((hst.alloc _).alloc _).pm.own) rfl (one_cell _ _ _ _ (by simp)) rfl (by omega) (by first | omega | (simp; done) | (simp; omega)) ?_; intro v' w5 hown5 b5 hg5 hn5 hat5; obtain ⟨gs', st5⟩ := MkSt.row _ hst hz hg5 hown5 hn5 hat5; obtain ⟨⟨p', cv', rfl, _⟩, _⟩ := st5.form; replace b5 := hb.trans (Below.trans (((Below.refl _ _).alloc hz _).alloc (by first | omega | (simp; done) | (simp; omega)) _) b5); have e1 : w5.cell? ⟨gF, k * 2, none⟩ = some (.int .i64 wk) := (b5.cell (p := ⟨gF, k * 2, none⟩) hbw).trans h1; have z5 := b5.size; clear hg5 hown5 hn5 hat5 hst hmk))
        | (at_builtin; (refine appInts (.tmp 31) (.tmp 39) (by rfl) rfl w2.heap.size (.slice (some ⟨r, 0, none⟩) k cq) cs [cost wk] w5.heap.size 0 1 rfl (st5.alloc _).oz rfl (Ints.one_at w5 (cost wk) _ rfl) (by have := HLR.out; omega) (by first | omega | (simp; done) | (simp; omega)) (by first | omega | (simp; done) | (simp; omega)) ?_; intro q' w6 hoq b6 hg6 hn6 hat6; have st6 := MkSt.cost _ st5 hg6 hoq (fun e => by have := (hn6.1 e).1; cases this) hat6; obtain ⟨_, ⟨r', cq', rfl, _⟩⟩ := st6.form; replace b6 := b5.trans (((Below.refl _ _).alloc z5 _).trans b6); clear hg6 hoq hn6 hat6 st5)))
      go_roundw
      case rel => exact ⟨k + 1, gs', by omega, by go_num, by rw [List.range_succ, List.map_append, HCS.out]; simpa [HW.out, HLR.out] using st6, b6⟩
      case measure => simp [intOf] <;> omega
    · obtain rfl : k = F.length := by omega
      have hpa := hst.pm.at
      obtain ⟨cs, hcs⟩ : ∃ cs, (List.range F.length).map (fun i => cost (wth F i)) = cs := ⟨_, rfl⟩
      have HCV : Hid (∀ j, j < F.length → nth cs j = cost (wth F j)) := by intro j hj; rw [← hcs]; simp [nth, hj]
      rw [hcs] at hst hlenr
      obtain ⟨g', c', e1, _, _, hic⟩ := hst.oz.form (by simp)
      injection e1 with e2 e3 e4
      cases e2
      have HLR := Lib.hid hlenr
      have hge : ∀ i, i < F.length → w2.heap.size ≤ gs i ∧ gs i ≠ r := fun i hi => ⟨hst.pm.ge i hi, fun e => (hst.pm.apart i hi).2 (by rw [e]; rfl)⟩
      have HGE := Lib.hid hge
      have hzw := hb.size
      clear e3 e4 hcs hlenr hge hst hlt hk HMK
      go_wp2_with fail
      clear hz
      go_loopw [7, 8] (fun sum i wo => ∃ (k : Nat) (M : Nat → Nat → Int) (X : Nat → Bool) (T : Int), k ≤ F.length ∧ i = .int .i64 k ∧ sum = .int .i64 T ∧ PayAt wo p gs F.length M ∧ Hid (PaySt F M X k 0) ∧ Hid (T = payTotal F M) ∧ Ints wo (some ⟨r, 0, none⟩) cs ∧ Below w2.heap.size w2 wo) (fun _ i _ => F.length - (intOf i).toNat)
      case atStart => exact ⟨0, fun _ _ => 0, fun _ => false, 0, by omega, rfl, rfl, hpa, PaySt.start F, (total_zero F).symm, hic, hb⟩
      case round =>
        clear hpa hic hb hzw
        obtain ⟨k, M, X, T, hk, rfl, rfl, hpa, HS, HT, hic, hb⟩ := hrel
        by_cases hlt : k < F.length
        · go_wp2_with fail
          go_loopw [7, 9] (fun sum nn wi => ∃ (n : Nat) (M : Nat → Nat → Int) (X : Nat → Bool) (T : Int), n ≤ 20 ∧ nn = .int .i64 n ∧ sum = .int .i64 T ∧ PayAt wi p gs F.length M ∧ Hid (PaySt F M X k n) ∧ Hid (T = payTotal F M) ∧ Ints wi (some ⟨r, 0, none⟩) cs ∧ Below w2.heap.size w2 wi) (fun _ nn _ => 20 - (intOf nn).toNat)
          case atStart => exact ⟨0, M, X, T, by omega, rfl, rfl, hpa, HS, HT, hic, hb⟩
          case round =>
            clear hpa HS HT hic hb
            obtain ⟨n, M, X, T, hn, rfl, rfl, hpa, HS, HT, hic, hb⟩ := hrel
            obtain ⟨b, off, A, C, e0, hbw, h1, h2, h3, h4, h5, h6⟩ := Pit.at (hPF.below (hb.mono (Nat.le_refl _))) hlt
            cases e0
            rw [Nat.zero_add] at h1
            clear h2 h3 h4 h5 h6
            obtain ⟨hw1, hw2⟩ := pitOk_worth hpF hlt
            have HW : Hid (wth F k = (nth F k).worth) := rfl
            generalize (nth F k).worth = wk at h1 hw1 hw2 HW
            by_cases hlt2 : (n : Int) < wk
            · have s0 := HS.out
              have htr := total_range hpF s0.inv
              rw [← HT.out] at htr
              obtain ⟨htr1, htr2⟩ := htr
              have hcong : ∀ i j, i < F.length → j < F.length → M i j = Mof (rowsOf M F.length) i j := fun i j hi hj => (rowsOf_at M hi hj).symm
              have s1 := s0.congr hcong
              have htab := hpa.tab (by omega)
              have HT1 : Hid (T = payTotal F (Mof (rowsOf M F.length))) := by show _ = _; rw [HT.out]; exact total_congr hcong
              have hpa1 := hpa.congr hcong
              have hrl := rowsOf_len M F.length
              have hrr := fun k => rowsOf_row M (n := F.length) (i := k)
              have hpF1 := hPF.below hb
              have hzb := hb.size
              have hW1 : Hid (n < wk) := hlt2
              clear s0 hcong hpa HS HT
              generalize rowsOf M F.length = rows at s1 htab HT1 hpa1 hrl hrr
              clear M
              have HRL := Lib.hid hrl
              have HRR := Lib.hid hrr
              have HS1 := Lib.hid s1
              clear hrl hrr s1
              obtain ⟨way, hway⟩ : ∃ way, way = wayR F (Mof rows) F.length [k] := ⟨_, rfl⟩
              have HWAY := Lib.hid hway
              clear hway
              go_wp2_with fail
              refine (l6Way_any F rows cs (some ⟨gF, 0, none⟩) (some ⟨p, 0, none⟩) (some ⟨r, 0, none⟩) CF cv cq hpF HS1.out.inv HRL.out (fun k hk => HRR.out k hk) HLR.out HCV.out F.length [] k [(k : Int)] wr.heap.size 0 1 _ (by simp) (by simp) (by simpa using hlt) rfl
                (hpF1.alloc _) (htab.alloc _) (hic.alloc _) (Ints.one_at wr k _ rfl)).mono ?_
              rintro e w6 ⟨g10, C10, rfl, hi10, b6, hg10⟩
              replace b6 := ((Below.refl _ _).alloc (Nat.le_refl _) _).trans (b6.mono (by simp))
              rw [List.nil_append, ← HWAY.out] at hi10 ⊢
              replace hg10 : wr.heap.size < g10 := by simp at hg10; omega
              have hgs : ∀ i, i < F.length → gs i ≠ g10 := fun i hi e => by have := (hpa1.row i hi).lt; omega
              have HGS := Lib.hid hgs
              replace hpa1 := hpa1.below b6
              replace hic := hic.below b6
              have b7 := hb.trans (b6.mono hzb)
              have HAUG : Hid (0 < way.length → PWay F (Mof rows) way ∧ (∀ x ∈ way, x < F.length) ∧ PaySt F (augPay (Mof rows) way) X k ((n : Int) + 1) ∧ payTotal F (augPay (Mof rows) way) = payTotal F (Mof rows) + 1) := by
                intro h; rw [HWAY.out] at h ⊢; exact HS1.out.aug hlt (by rw [HW.out]; exact hW1.out) (by omega) h
              have HFAIL : Hid (way.length = 0 → ∃ X', PaySt F (Mof rows) X' k ((n : Int) + 1)) := by
                intro h; rw [HWAY.out] at h; exact HS1.out.fail hlt (by rw [HW.out]; exact hW1.out) (by omega) h
              have HR0 : Hid (∀ a b, a < F.length → b < F.length → -((1 : Nat) : Int) ≤ Mof rows a b ∧ Mof rows a b ≤ 20 + ((1 : Nat) : Int)) := by
                intro a b ha hb; have := pay_range hpF HS1.out.inv ha hb; omega
              have hlw : way.length ≤ 8 := by
                have e := HWAY.out
                by_cases h0 : 0 < way.length
                · obtain ⟨l, e2, _, hnd, hlt2, _⟩ := wayR_some HS1.out.inv F.length [] k (by simp) (by simpa using hlt) (by have := hW1.out; rw [HW.out]; omega) (by rw [e] at h0; simpa using h0)
                  have := nodup_len hnd hlt2
                  simp only [List.nil_append] at e2 this
                  rw [e, e2]; omega
                · omega
              clear hgs htab hb b6 hzb hpF1 HS1 hlt2
              go_wp2_with fail
              go_loopw [11] (fun ii wj => ∃ (i : Nat) (N : Nat → Nat → Int), 1 ≤ i ∧ i ≤ 9 ∧ ii = .int .i64 i ∧ PayAt wj p gs F.length N ∧ Hid (augRun way (Mof rows) 1 (way.length - 1) = augRun way N i (way.length - i)) ∧ Hid (∀ a b, a < F.length → b < F.length → -(i : Int) ≤ N a b ∧ N a b ≤ 20 + i) ∧ Ints wj (some ⟨g10, 0, none⟩) (castL way) ∧ Ints wj (some ⟨r, 0, none⟩) cs ∧ Below w2.heap.size w2 wj) (fun ii _ => way.length - (intOf ii).toNat)
              case atStart => exact ⟨1, Mof rows, by omega, by omega, rfl, hpa1, rfl, HR0, hi10, hic, b7⟩
              case round =>
                clear hpa1 HR0 hi10 hic b7
                obtain ⟨i, N, hi1, hi9, rfl, hpa, HA, HRG, hi10, hic, hb⟩ := hrel
                by_cases hlt3 : i < way.length
                · obtain ⟨hpw, hlw2, _⟩ := HAUG.out (by omega)
                  have w0 := hlw2 _ (nth_mem (xs := way) (k := i - 1) (by omega))
                  have w1 := hlw2 _ (nth_mem (xs := way) (k := i) hlt3)
                  have HRG2 := Lib.hid (augOne_range HRG.out hlw2 hlt3 hi1)
                  have hstep : augRun way N i (way.length - i) = augRun way (augOne N way i) (i + 1) (way.length - (i + 1)) := by
                    rw [show way.length - i = (way.length - (i + 1)) + 1 by omega]; rfl
                  have HST := Lib.hid hstep
                  obtain ⟨bb, oo, e0, hbb, hcc⟩ := Ints.at hi10 (k := i) (by rw [castL_len]; exact hlt3)
                  cases e0
                  have d0 := hcc (i - 1) (by rw [castL_len]; omega)
                  have d1 := hcc i (by rw [castL_len]; exact hlt3)
                  have n0 : nth (castL way) (i - 1) = ((nth way (i - 1) : Nat) : Int) := nth_map (by omega)
                  have n1 : nth (castL way) i = ((nth way i : Nat) : Int) := nth_map hlt3
                  rw [n0, Nat.zero_add] at d0
                  rw [n1, Nat.zero_add] at d1
                  have r0 := HRG.out _ _ w0 w1
                  have r1 := HRG.out _ _ w1 w0
                  have HON : Hid (augOne N way i = if i % 2 = 1 then upd2 N (nth way (i - 1)) (nth way i) (N (nth way (i - 1)) (nth way i) + 1) else upd2 N (nth way i) (nth way (i - 1)) (N (nth way i) (nth way (i - 1)) - 1)) := rfl
                  clear hcc n0 n1 hstep hpw hlw2
                  generalize nth way (i - 1) = x0 at d0 w0 r0 r1 HON
                  generalize nth way i = x1 at d1 w1 r0 r1 HON
                  by_cases hpar : i % 2 = 1
                  · have m1 : (i : Int) % 2 = 1 := by omega
                    have m2 : Int.tmod (i : Int) 2 = 1 := by rw [Int.tmod_eq_emod_of_nonneg (by omega)]; exact m1
                    have HPA : Hid (augOne N way i = upd2 N x0 x1 (N x0 x1 + 1)) := by show _ = _; rw [HON.out, if_pos hpar]
                    clear hpar
                    go_wp2_with fail
                    clear m1 m2
                    have f1 := hpa.head x0 w0
                    have f2 := (hpa.row x0 w0).cell w1
                    have f3 := (hpa.row x0 w0).frozen x1
                    have hI1 : (x0 : Int) < (F.length : Int) := by omega
                    have hI2 : (x1 : Int) < (F.length : Int) := by omega
                    obtain ⟨q, rfl⟩ : ∃ q, i = q + 1 := ⟨i - 1, by omega⟩
                    rw [Nat.add_sub_cancel] at d0
                    have hI3 : (q : Int) < (way.length : Int) := by omega
                    have hI4 : 0 ≤ (q : Int) := by omega
                    have hI5 : ((q : Int) + 1).toNat = q + 1 := by omega
                    have hI6 : (q : Int) + 1 < (way.length : Int) := by omega
                    have hI7 : 0 ≤ (q : Int) + 1 := by omega
                    have hI8 : IntKind.i64.wrap (q : Int) = (q : Int) := IntWalk.i64_in _ (by omega)
                    have hI9 : IntKind.i64.wrap (N x0 x1 + 1) = N x0 x1 + 1 := IntWalk.i64_in _ (by omega)
                    go_still_tail 28, (by kernel_rfl)
                    go_wp2_with fail
                    go_roundw
                    case rel =>
                      refine ⟨q + 1 + 1, augOne N way (q + 1), by omega, by omega, by go_num, ?_, by show _ = _; rw [HA.out, HST.out], HRG2.out, (hi10.other (fun e => HGS.out x0 w0 e.symm) _).drew, (hic.other (fun e => (HGE.out x0 w0).2 e.symm) _).drew, (hb.setCell (HGE.out x0 w0).1 _).drew⟩
                      rw [HPA.out]
                      exact (hpa.set w0 _).below (Below.drew (Below.refl _ _))
                    case measure => simp [intOf] <;> omega
                  · have m1 : (i : Int) % 2 = 0 := by omega
                    have m2 : Int.tmod (i : Int) 2 = 0 := by rw [Int.tmod_eq_emod_of_nonneg (by omega)]; exact m1
                    have HPA : Hid (augOne N way i = upd2 N x1 x0 (N x1 x0 - 1)) := by show _ = _; rw [HON.out, if_neg hpar]
                    clear hpar
                    go_wp2_with fail
                    clear m1 m2
                    have f1 := hpa.head x1 w1
                    have f2 := (hpa.row x1 w1).cell w0
                    have f3 := (hpa.row x1 w1).frozen x0
                    have hI1 : (x0 : Int) < (F.length : Int) := by omega
                    have hI2 : (x1 : Int) < (F.length : Int) := by omega
                    obtain ⟨q, rfl⟩ : ∃ q, i = q + 1 := ⟨i - 1, by omega⟩
                    rw [Nat.add_sub_cancel] at d0
                    have hI3 : (q : Int) < (way.length : Int) := by omega
                    have hI4 : 0 ≤ (q : Int) := by omega
                    have hI5 : ((q : Int) + 1).toNat = q + 1 := by omega
                    have hI6 : (q : Int) + 1 < (way.length : Int) := by omega
                    have hI7 : 0 ≤ (q : Int) + 1 := by omega
                    have hI8 : IntKind.i64.wrap (q : Int) = (q : Int) := IntWalk.i64_in _ (by omega)
                    have hI9 : IntKind.i64.wrap (N x1 x0 - 1) = N x1 x0 - 1 := IntWalk.i64_in _ (by omega)
                    go_still_tail 28, (by kernel_rfl)
                    go_wp2_with fail
                    go_roundw
                    case rel =>
                      refine ⟨q + 1 + 1, augOne N way (q + 1), by omega, by omega, by go_num, ?_, by show _ = _; rw [HA.out, HST.out], HRG2.out, (hi10.other (fun e => HGS.out x1 w1 e.symm) _).drew, (hic.other (fun e => (HGE.out x1 w1).2 e.symm) _).drew, (hb.setCell (HGE.out x1 w1).1 _).drew⟩
                      rw [HPA.out]
                      exact (hpa.set w1 _).below (Below.drew (Below.refl _ _))
                    case measure => simp [intOf] <;> omega
                · by_cases h0 : 0 < way.length
                  · obtain ⟨hpw, _, hst, htt⟩ := HAUG.out h0
                    have hfin : augPay (Mof rows) way = N := by
                      rw [← augRun_pay way (Mof rows) hpw, HA.out, show way.length - i = 0 by omega]; rfl
                    rw [hfin] at hst htt
                    have HST := Lib.hid hst
                    have HTT := Lib.hid htt
                    have hne : (0 : Int) < (way.length : Int) := by omega
                    clear hst htt hfin hpw
                    go_wp2_with fail
                    go_roundw
                    case rel => exact ⟨n + 1, N, X, T + 1, by have := hW1.out; omega, by go_num, rfl, hpa, by show PaySt F N _ k ((n + 1 : Nat) : Int); rw [show ((n + 1 : Nat) : Int) = (n : Int) + 1 by omega]; exact HST.out, by show _ = _; rw [HTT.out, HT1.out], hic, hb⟩
                    case measure => have hW2 := hW1.out; simp [intOf] <;> omega
                  · obtain ⟨X', hst⟩ := HFAIL.out (by omega)
                    have hfin : Mof rows = N := by
                      have h1 := HA.out
                      rw [show way.length - 1 = 0 by omega, show way.length - i = 0 by omega] at h1; exact h1
                    rw [hfin] at hst
                    have HST := Lib.hid hst
                    have HFN := Lib.hid hfin
                    have hne : ¬ (0 : Int) < (way.length : Int) := by omega
                    clear hst hfin
                    go_wp2_with fail
                    go_roundw
                    case rel => exact ⟨n + 1, N, X', T, by have := hW1.out; omega, by go_num, rfl, hpa, by show PaySt F N _ k ((n + 1 : Nat) : Int); rw [show ((n + 1 : Nat) : Int) = (n : Int) + 1 by omega]; exact HST.out, by show _ = _; rw [HT1.out, HFN.out], hic, hb⟩
                    case measure => have hW2 := hW1.out; simp [intOf] <;> omega
            · have HNX : Hid (PaySt F M X (k + 1) 0) := HS.out.next (by omega) (by rw [HW.out]; omega)
              go_wp2_with fail
              go_roundw
              case rel => exact ⟨k + 1, M, X, T, by omega, by go_num, rfl, hpa, HNX, HT, hic, hb⟩
              case measure => simp [intOf] <;> omega
        · have hkk : k = F.length := by omega
          have hfin := HFin.out M X (by rw [← hkk]; exact HS.out)
          have HFI := Lib.hid hfin
          clear hfin hkk
          go_wp2
          go_ret
          exact ⟨by rw [← HFI.out, ← HT.out]; rfl, b3.trans (hb.mono b3.size)⟩
end Go.Proofs.YtnjpifaphmeepaaDoor
