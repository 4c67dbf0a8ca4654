/- Walks: the drawn pits and payments: spec.l20Pay. -/
import Derived.Test.YtnjpifaphmeepaaDoorD2b
import Derived.Test.YtnjpifaphmeepaaDoorPayU
import Derived.Test.YtnjpifaphmeepaaDoorS2
namespace Go.Proofs.YtnjpifaphmeepaaDoor
open Go Go.RowKit

structure DPay (w2 w : World) (R : Nat) (a : Option Addr) (n c q : Nat) (v : Value) (gs : Nat → Nat) (k N : Nat) (M : Nat → Nat → Int) : Prop where
  u : Upto w2.heap.size R w2 w
  r : Rdr w R a n c q
  t : PayU w w2.heap.size v gs k N M
  zero : ∀ i j, k ≤ i → M i j = 0
  rng : ∀ i j, 0 ≤ M i j ∧ M i j ≤ 3
section
variable {w2 w w' : World} {R : Nat} {a : Option Addr} {n c q : Nat} {v : Value} {gs : Nat → Nat} {k N : Nat} {M : Nat → Nat → Int}
theorem DPay.tick (h : DPay w2 w R a n c q v gs k N M) (hR : R < w2.heap.size) {q' : Nat} (r' : Rdr w' R a n c q') (u' : ∀ K, Upto K R w w') : DPay w2 w' R a n c q' v gs k N M :=
  ⟨h.u.trans (u' _), r', h.t.upto hR (u' _), h.zero, h.rng⟩
theorem DPay.below (h : DPay w2 w R a n c q v gs k N M) (hR : R < w2.heap.size) (hc : ∀ b off, 0 < n → a = some ⟨b, off, none⟩ → b < w2.heap.size) (hb : Below w.heap.size w w') : DPay w2 w' R a n c q v gs k N M :=
  ⟨h.u.trans (Upto.of (hb.mono h.u.size)), h.r.keep (Nat.lt_of_lt_of_le hR h.u.size) (fun b off h1 h2 => Nat.lt_of_lt_of_le (hc b off h1 h2) h.u.size) hb, h.t.below hb, h.zero, h.rng⟩
theorem DPay.set (h : DPay w2 w R a n c q v gs k N M) (hR : R < w2.heap.size) (hc : ∀ b off, 0 < n → a = some ⟨b, off, none⟩ → b < w2.heap.size) {i : Nat} (j : Nat) (hi : i < k) {x : Int} (hx : 0 ≤ x ∧ x ≤ 3) :
    DPay w2 (w.setCell ⟨gs i, j, none⟩ (.int .i64 x)) R a n c q v gs k N (upd2 M i j x) := by
  have hb : Below w2.heap.size w (w.setCell ⟨gs i, j, none⟩ (.int .i64 x)) := (Below.refl _ _).setCell (p := ⟨gs i, j, none⟩) (h.t.ge i hi) _
  refine ⟨h.u.trans (Upto.of hb), h.r.keep hR hc hb, h.t.set j hi x, fun i' j' h1 => ?_, fun i' j' => ?_⟩
  · unfold upd2; rw [if_neg (by omega)]; exact h.zero i' j' h1
  · unfold upd2; split
    · exact hx
    · exact h.rng i' j'
theorem DPay.more (o : Obj) (h : DPay w2 w R a n c q v gs k N M) (hR : R < w2.heap.size) (hc : ∀ b off, 0 < n → a = some ⟨b, off, none⟩ → b < w2.heap.size) {v' : Value} (hb : Below w2.heap.size w w')
    (hg : ((w.alloc (.cells (madeCells #[.int .i64 0] N) 3)).alloc o).grownBy w' v.ownBlock)
    (hown : w'.ownsRow w2.heap.size 26 1 v' (k + 1) ((List.range k).map (fun i => Value.slice (some ⟨gs i, 0, none⟩) N N) ++ [.slice (some ⟨w.heap.size, 0, none⟩) N N])) (hn : v ≠ .slice none 0 0 → v' ≠ .slice none 0 0)
    (hat : v'.ownBlock = v.ownBlock ∨ v'.ownBlock = some ((w.alloc (.cells (madeCells #[.int .i64 0] N) 3)).alloc o).heap.size) : ∃ gs', DPay w2 w' R a n c q v' gs' (k + 1) N M := by
  obtain ⟨gs', ht⟩ := h.t.more o h.u.size (fun j => h.zero k j (Nat.le_refl _)) hg hown hn hat
  exact ⟨gs', h.u.trans (Upto.of hb), h.r.keep hR hc hb, ht, fun i j hi => h.zero i j (by omega), h.rng⟩
theorem OwnPit.cells {w : World} {B K g C : Nat} {ps : List PB} (h : OwnPit w B K (.slice (some ⟨g, 0, none⟩) ps.length C) ps) {k : Nat} (hk : k < ps.length) :
    w.cell? ⟨g, k * 2, none⟩ = some (.int .i64 (nth ps k).worth) ∧ w.cell? ⟨g, k * 2 + 1, none⟩ = some (.slice (nth ps k).a (nth ps k).needs.length (nth ps k).c) ∧ NeedsAt w B K (nth ps k) := by
  obtain ⟨h1, h2, h3⟩ := h
  obtain ⟨f1, f2⟩ := flat_at ps k hk
  refine ⟨?_, ?_, (h3 _ (nth_mem hk)).1⟩
  · have := World.ownsRow.cells h1 (g := g) rfl _ _ f1
    rwa [Addr.add_lit, Nat.zero_add] at this
  · have := World.ownsRow.cells h1 (g := g) rfl _ _ f2
    rwa [Addr.add_lit, Nat.zero_add] at this
end

theorem spayOk_at (a1 a2 : Option Addr) (c1 c2 : Nat) (bs : List Blk) (pay : List (List Int)) (w : World) (N1 N2 : Nat) (e1 : bs.length = N1) (e2 : pay.length = N2) (hl : N1 ≤ 1048576) (hl2 : N2 ≤ 1048576) (hs : Pit w a1 bs) (ht : Tab w a2 pay) :
    Calls Tryd.prog 45 #[.slice a1 N1 c1, .slice a2 N2 c2] w fun e w' => e = .returned (.bool (payOkS bs pay)) ∧ Below w.heap.size w w' := by
  subst e1 e2
  exact spayOk_any a1 a2 c1 c2 bs pay w hl hl2 hs ht

/-- a drawn pit and a table -/
def DrawnPay (w : World) (e : Ending) (w' : World) : Prop :=
  ∃ (bs : List Blk) (pay : List (List Int)) (g C gP CP : Nat), e = .returned (.tuple #[.slice (some ⟨g, 0, none⟩) bs.length C, .slice (some ⟨gP, 0, none⟩) pay.length CP]) ∧ bs.length ≤ 9 ∧ pay.length ≤ 10 ∧ bs.length ≤ C ∧ pay.length ≤ CP ∧
    Pit w' (some ⟨g, 0, none⟩) bs ∧ Tab w' (some ⟨gP, 0, none⟩) pay ∧ Below w.heap.size w w'

set_option maxRecDepth 100000 in
set_option maxHeartbeats 4000000 in
theorem l20Pay_any (a : Option Addr) (n c : Nat) (w0 w : World) (h : Rdr w w0.heap.size a n c 0) (hb0 : Below w0.heap.size w0 w) :
    Calls Tryd.prog 74 #[.pointer (some ⟨w0.heap.size, 0, none⟩)] w (DrawnPay w0) := by
  obtain ⟨R, hR⟩ : ∃ R, w0.heap.size = R := ⟨_, rfl⟩
  rw [hR] at h hb0 ⊢
  go_enter Tryd.func74, Tryd.ntmps74
  go_wp2_with fail
  refine (l20Pit_own R a n c 0 14 w h (by omega) (by omega) (by omega)).mono ?_
  rintro e w2 ⟨ps, g, C, p', rfl, h9, hC, hown, r2, hp', hu⟩
  have hRK : R < w2.heap.size := r2.lt
  have hRB : R < w.heap.size := h.lt
  have hcode : ∀ b off, 0 < n → a = some ⟨b, off, none⟩ → b < w2.heap.size := fun b off hn e => by
    obtain ⟨b', off', e', hlt, _⟩ := r2.bytes hn
    rw [e] at e'; cases e'; exact hlt
  have hb2 : Below R w0 w2 := hb0.trans ((hu.mono (by omega)).below (Nat.le_refl _))
  have HO : Hid (∀ W, Upto w2.heap.size R w2 W → OwnPit W w.heap.size w2.heap.size (.slice (some ⟨g, 0, none⟩) ps.length C) ps) := fun W hu => hown.upto hRB hu
  have HB : Hid (∀ W, Upto w2.heap.size R w2 W → Below R w0 W) := fun W hu => hb2.trans ((hu.mono (by omega)).below (Nat.le_refl _))
  have HCO := Lib.hid hcode
  clear hown hu hb2 hcode h hb0
  go_wp2_with fail
  obtain ⟨W0, hW0⟩ : ∃ W0, W0 = w2.alloc (.cells #[] 26) := ⟨_, rfl⟩
  obtain ⟨K, hK⟩ : ∃ K, w2.heap.size = K := ⟨_, rfl⟩
  have st0 : DPay w2 W0 R a n c p' (.slice (some ⟨K, 0, none⟩) 0 0) (fun _ => 0) 0 ps.length (fun _ _ => 0) := by
    have hb : Below w2.heap.size w2 W0 := by rw [hW0]; exact (Below.refl _ _).alloc (Nat.le_refl _) _
    refine ⟨Upto.of hb, r2.keep hRK HCO.out hb, ?_, fun _ _ _ => rfl, fun _ _ => by omega⟩
    rw [hW0, ← hK]; exact PayU.start w2 _ _ _ _ (Nat.le_refl _)
  rw [hK, ← hW0]
  clear hW0 r2
  go_loopw [5, 6] (fun pay i wr => ∃ (k q : Nat) (v : Value) (gs : Nat → Nat) (M : Nat → Nat → Int), k ≤ ps.length ∧ i = .int .i64 k ∧ pay = v ∧ q ≤ 400 + 300 * k ∧ DPay w2 wr R a n c q v gs k ps.length M) (fun _ i _ => ps.length - (intOf i).toNat)
  case atStart => exact ⟨0, p', _, _, _, by omega, rfl, rfl, by omega, st0⟩
  case round =>
    obtain ⟨k, q, v, gs, M, hk, rfl, rfl, hq, hst⟩ := hrel
    clear st0
    obtain ⟨p, cv, rfl, hcv, hpK, hpw⟩ := hst.t.form
    by_cases hlt : k < ps.length
    · have hmk := mkInts ps.length (by omega)
      have hz := hst.u.size
      go_wp2_with (at_builtin; (refine appRow (.tmp 19) (.tmp 23) (by rfl) rfl w2.heap.size (.slice (some ⟨p, 0, none⟩) k cv) _ k (.slice (some ⟨wr.heap.size, 0, none⟩) ps.length ps.length) (wr.heap.size + 1) 1 rfl ((hst.t.below (((Below.refl _ _).alloc (Nat.le_refl _) _).alloc (by first | omega | (simp; done) | (simp; omega)) _)).own) rfl (one_cell _ _ _ _ (by simp)) rfl (by omega) (by first | omega | (simp; done) | (simp; omega)) ?_; intro v' w5 hown5 b5 hg5 hn5 hat5; replace b5 := Below.trans (((Below.refl _ _).alloc hz _).alloc (by first | omega | (simp; done) | (simp; omega)) _) b5; obtain ⟨gs', st5⟩ := hst.more _ hRK HCO.out b5 hg5 hown5 hn5 hat5; obtain ⟨p5, cv5, rfl, hcv5, hp5, hpw5⟩ := st5.t.form; clear hg5 hown5 hn5 hat5 hst hmk b5 hpw hcv hpK hz))
      obtain ⟨wd, nd, an, cn, hx⟩ : ∃ wd nd an cn, nth ps k = ⟨wd, nd, an, cn⟩ := ⟨_, _, _, _, rfl⟩
      have HX : Hid (∀ W, Upto w2.heap.size R w2 W → W.cell? ⟨g, k * 2 + 1, none⟩ = some (.slice an nd.length cn)) := fun W hu => by
        have := ((HO.out W hu).cells hlt).2.1
        rwa [hx] at this
      have HN : Hid (∀ j, j < nd.length → ∃ gx, an = some ⟨gx, 0, none⟩ ∧ ∀ W, Upto w2.heap.size R w2 W → W.cell? ⟨gx, j, none⟩ = some (.int .i64 (nth nd j))) := fun j hj => by
        have h0 := ((HO.out w2 (Upto.refl _ _ _)).cells hlt).2.2
        rw [hx] at h0
        obtain ⟨gx, e, _⟩ := h0.2.2.2 (Nat.lt_of_le_of_lt (Nat.zero_le _) hj)
        refine ⟨gx, e, fun W hu => ?_⟩
        have h1 := ((HO.out W hu).cells hlt).2.2
        rw [hx] at h1
        obtain ⟨gy, e', _, _, _, hc⟩ := h1.2.2.2 (Nat.lt_of_le_of_lt (Nat.zero_le _) hj)
        have e2 : gx = gy := by have := e.symm.trans e'; injection this with this; injection this
        rw [e2]
        exact hc j _ (by rw [List.getElem?_map, getElem?_nth hj]; rfl)
      have hnd : nd.length ≤ 100 := by have := ((HO.out w2 (Upto.refl _ _ _)).cells hlt).2.2.1; rwa [hx] at this
      clear hx
      have hI0 : (k : Int) < (ps.length : Int) := by omega
      have hI1 : (k : Int) < (k : Int) + 1 := by omega
      go_loopw [7] (fun jj wi => ∃ (j q2 : Nat) (M2 : Nat → Nat → Int), j ≤ nd.length ∧ jj = .int .i64 j ∧ q2 ≤ q + 2 * j ∧ DPay w2 wi R a n c q2 (.slice (some ⟨p5, 0, none⟩) (k + 1) cv5) gs' (k + 1) ps.length M2) (fun jj _ => nd.length - (intOf jj).toNat)
      case atStart => exact ⟨0, q, M, by omega, rfl, by omega, st5⟩
      case round =>
        clear st5
        obtain ⟨j, q2, M2, hj, rfl, hq2, hst⟩ := hrel
        have c1 := HX.out _ hst.u
        by_cases hjl : j < nd.length
        · obtain ⟨gx, rfl, hx⟩ := HN.out j hjl
          have HXJ := Lib.hid hx
          clear hx
          generalize nth nd j = z at HXJ
          have hI2 : (j : Int) < (nd.length : Int) := by omega
          go_wp2_with fail
          refine (pick_up R a n c q2 4 wr hst.r (by omega) (by omega)).mono ?_
          rintro e w5 ⟨y, rfl, hy1, _, r5, u5⟩
          replace hy1 := hy1 (by omega)
          have st5 := hst.tick hRK r5 u5
          clear u5 r5 hst c1
          have c1 := HX.out _ st5.u
          have c2 := HXJ.out _ st5.u
          by_cases hy : 0 < y
          · have hyb : decide ((0 : Int) < (y : Int)) = true := by simpa using hy
            cases hin : sIn z 0 ((ps.length : Int) - 1)
            · go_wp2_with (go_at_call 68; refine (l1In_any _ _ _ _).mono ?_; rintro e w' ⟨rfl, rfl⟩)
              go_roundw
              case rel => exact ⟨k + 1, q2 + 1, _, gs', M2, by omega, by go_num, rfl, by omega, st5⟩
              case measure => simp [intOf] <;> omega
            · obtain ⟨m, rfl, hm⟩ : ∃ m : Nat, z = (m : Int) ∧ m < ps.length := by
                simp [sIn] at hin
                exact ⟨z.toNat, by omega, by omega⟩
              have hI3 : (m : Int) < (ps.length : Int) := by omega
              go_wp2_with (go_at_call 68; refine (l1In_any _ _ _ _).mono ?_; rintro e w' ⟨rfl, rfl⟩)
              have t1 := st5.t.head (Nat.lt_succ_self k)
              have t2 := (st5.t.row k (Nat.lt_succ_self k)).cell hm
              have t3 := (st5.t.row k (Nat.lt_succ_self k)).frozen m
              go_region_law (first
                | (go_simp; go_at_call 79; refine (pick_up R a n c (q2 + 1) 4 _ (st5.below hRK HCO.out (by repeat (first | exact Below.refl _ _ | refine Below.drew ?_))).r (by omega) (by omega)).mono ?_; rintro e w7 ⟨x, rfl, hx1, _, r7, u7⟩; replace hx1 := hx1 (by omega); have st7 := (st5.below hRK HCO.out (by repeat (first | exact Below.refl _ _ | refine Below.drew ?_))).tick hRK r7 u7; have k1 := HX.out _ st7.u; have k2 := HXJ.out _ st7.u; have s1 := st7.t.head (Nat.lt_succ_self k); have s2 := (st7.t.row k (Nat.lt_succ_self k)).cell hm; have s3 := (st7.t.row k (Nat.lt_succ_self k)).frozen m; clear r7 u7)
                | fail)
              all_goals
                clear k1 k2 s1 s2 s3 t1 t2 t3 c1 c2 st5
                go_wp2_with fail
                go_roundw
                case rel => exact ⟨j + 1, q2 + 1 + 1, upd2 M2 k m x, by omega, by go_num, by omega, (st7.below hRK HCO.out (by repeat (first | exact Below.refl _ _ | refine Below.drew ?_))).set hRK HCO.out m (Nat.lt_succ_self k) (by omega)⟩
                case measure => simp [intOf] <;> omega
          · have hyb : decide ((0 : Int) < (y : Int)) = false := by simpa using hy
            go_wp2_with fail
            go_roundw
            case rel => exact ⟨k + 1, q2 + 1, _, gs', M2, by omega, by go_num, rfl, by omega, st5⟩
            case measure => simp [intOf] <;> omega
        · have hI2 : ¬ (j : Int) < (nd.length : Int) := by omega
          go_wp2_with fail
          go_roundw
          case rel => exact ⟨k + 1, q2, _, gs', M2, by omega, by go_num, rfl, by omega, hst⟩
          case measure => simp [intOf] <;> omega
    · obtain rfl : k = ps.length := by omega
      go_wp2_with fail
      clear hlt
      go_loopw [8] (fun i2 wr => ∃ (k q3 : Nat) (M3 : Nat → Nat → Int), k ≤ ps.length ∧ i2 = .int .i64 k ∧ q3 ≤ 5000 + k ∧ DPay w2 wr R a n c q3 (.slice (some ⟨p, 0, none⟩) ps.length cv) gs ps.length ps.length M3) (fun i2 _ => ps.length - (intOf i2).toNat)
      case atStart => exact ⟨0, q, M, by omega, rfl, by omega, hst⟩
      case round =>
        clear hst
        obtain ⟨k, q3, M3, hk, rfl, hq3, hst⟩ := hrel
        by_cases hlt : k < ps.length
        · have hI0 : (k : Int) < (ps.length : Int) := by omega
          go_wp2_with fail
          refine (pick_up R a n c q3 6 wr hst.r (by omega) (by omega)).mono ?_
          rintro e w5 ⟨y, rfl, hy1, _, r5, u5⟩
          replace hy1 := hy1 (by omega)
          have st5 := hst.tick hRK r5 u5
          clear u5 r5 hst
          by_cases hy : 0 < y
          · have hyb : decide ((0 : Int) < (y : Int)) = true := by simpa using hy
            go_wp2_with fail
            go_loopw [9] (fun j2 wr => ∃ (j : Nat) (M4 : Nat → Nat → Int), j ≤ ps.length ∧ j2 = .int .i64 j ∧ DPay w2 wr R a n c (q3 + 1) (.slice (some ⟨p, 0, none⟩) ps.length cv) gs ps.length ps.length M4) (fun j2 _ => ps.length - (intOf j2).toNat)
            case atStart => exact ⟨0, M3, by omega, rfl, st5⟩
            case round =>
              clear st5
              obtain ⟨j, M4, hj, rfl, hst⟩ := hrel
              by_cases hjl : j < ps.length
              · have hI1 : (j : Int) < (ps.length : Int) := by omega
                have ht := hst.t.tab (by omega)
                obtain ⟨aP, cP, e1, _, hpit⟩ := (HO.out _ hst.u).pit
                injection e1 with e2 e3 e4
                subst e2
                clear e4 e3
                cases hok : payOkS (ps.map PB.blk) (rowsK M4 ps.length ps.length)
                · go_wp2_with (go_at_call 45; refine (spayOk_at _ _ _ _ (ps.map PB.blk) (rowsK M4 ps.length ps.length) _ ps.length ps.length (by simp) (rowsK_len _ _ _) (by omega) (by omega) hpit ht).mono ?_; rintro e w6 ⟨rfl, b6⟩; have st6 := hst.below hRK HCO.out b6; clear hst ht hpit b6)
                  have t1 := st6.t.head hlt
                  have t2 := (st6.t.row k hlt).cell hjl
                  have t3 := (st6.t.row k hlt).frozen j
                  have hM := st6.rng k j
                  have HST := Lib.hid st6
                  generalize hmm : M4 k j = x at t2 hM
                  have hI2 : IntKind.i64.wrap (x - 2) = x - 2 := IntWalk.i64_in _ (by omega)
                  clear hmm st6 hok
                  go_still_tail 15, (by kernel_rfl)
                  go_wp2_with fail
                  go_roundw
                  case rel => exact ⟨j + 1, upd2 M4 k j (max (x - 2) 0), by omega, by go_num, by first | exact (HST.out.below hRK HCO.out (by repeat (first | exact Below.refl _ _ | refine Below.drew ?_))).set hRK HCO.out j hlt (by omega) | exact (HST.out.set hRK HCO.out j hlt (by omega)).below hRK HCO.out (by repeat (first | exact Below.refl _ _ | refine Below.drew ?_))⟩
                  case measure => simp [intOf] <;> omega
                · go_wp2_with (go_at_call 45; refine (spayOk_at _ _ _ _ (ps.map PB.blk) (rowsK M4 ps.length ps.length) _ ps.length ps.length (by simp) (rowsK_len _ _ _) (by omega) (by omega) hpit ht).mono ?_; rintro e w6 ⟨rfl, b6⟩; have st6 := hst.below hRK HCO.out b6; clear hst ht hpit b6)
                  go_roundw
                  case rel => exact ⟨k + 1, q3 + 1, M4, by omega, by go_num, by omega, st6⟩
                  case measure => simp [intOf] <;> omega
              · have hI1 : ¬ (j : Int) < (ps.length : Int) := by omega
                go_wp2_with fail
                go_roundw
                case rel => exact ⟨k + 1, q3 + 1, M4, by omega, by go_num, by omega, hst⟩
                case measure => simp [intOf] <;> omega
          · have hyb : decide ((0 : Int) < (y : Int)) = false := by simpa using hy
            have hst := st5
            clear st5
            generalize w5 = wr at hst ⊢
            go_wp2_with fail
            refine (odd_up R a n c (q3 + 1) 14 wr hst.r (by omega) (by omega) (by omega)).mono ?_
            rintro e w6 ⟨bo, rfl, r6, u6⟩
            have st6 := hst.tick hRK r6 u6
            clear r6 u6 hst
            cases bo
            · go_wp2_with fail
              go_ret2
              obtain ⟨aP, cP, e1, _, hpit⟩ := (HO.out _ st6.u).pit
              injection e1 with e2 e3 e4
              subst e2
              exact ⟨ps.map PB.blk, rowsK M3 ps.length ps.length, g, C, p, cv, by rw [List.length_map, rowsK_len]; rfl, by simpa using h9, by rw [rowsK_len]; omega, by simpa using hC, by rw [rowsK_len]; exact hcv, hpit, st6.t.tab (by omega), hR ▸ HB.out _ st6.u⟩
            · have hz := st6.u.size
              go_wp2_with (at_builtin; (refine appRow (.tmp 109) (.tmp 111) (by rfl) rfl w2.heap.size (.slice (some ⟨p, 0, none⟩) ps.length cv) _ ps.length (.slice (some ⟨w6.heap.size, 0, none⟩) 0 0) (w6.heap.size + 1) 1 rfl ((st6.t.below (((Below.refl _ _).alloc (Nat.le_refl _) _).alloc (by first | omega | (simp; done) | (simp; omega)) _)).own) rfl (one_cell _ _ _ _ (by simp)) rfl (by omega) (by first | omega | (simp; done) | (simp; omega)) ?_; intro v' w7 hown7 b7 hg7 hn7 hat7; have u7 := st6.u.trans (Upto.of (Below.trans (((Below.refl _ _).alloc hz _).alloc (by first | omega | (simp; done) | (simp; omega)) _) b7)); have hf7 := ownsRow_form hown7))
              obtain ⟨g7, c7, rfl, hc7⟩ : ∃ g7 c7, v' = .slice (some ⟨g7, 0, none⟩) (ps.length + 1) c7 ∧ ps.length + 1 ≤ c7 := by
                obtain ⟨a7, c7, e7, h7, h8⟩ := hf7
                obtain ⟨g7, rfl, _⟩ := h8 (by omega)
                exact ⟨g7, c7, e7, h7⟩
              have ht7 := (st6.t.below (((Below.refl _ _).alloc (Nat.le_refl _) (.cells #[] 3)).alloc (by simp) (.cells #[.slice (some ⟨w6.heap.size, 0, none⟩) 0 0] 26))).tab_more hg7 (by omega) hown7
              clear hg7 hn7 hat7 hown7 hf7 b7
              go_wp2_with fail
              go_ret2
              obtain ⟨aP, cP, e1, _, hpit⟩ := (HO.out _ u7).pit
              injection e1 with e2 e3 e4
              subst e2
              exact ⟨ps.map PB.blk, rowsK M3 ps.length ps.length ++ [[]], g, C, g7, c7, by rw [List.length_map, List.length_append, rowsK_len]; rfl, by simpa using h9, by rw [List.length_append, rowsK_len]; simp; omega, by simpa using hC, by rw [List.length_append, rowsK_len]; exact hc7, hpit, ht7, hR ▸ HB.out _ u7⟩
        · have hI0 : ¬ (k : Int) < (ps.length : Int) := by omega
          go_wp2_with fail
          refine (odd_up R a n c q3 14 wr hst.r (by omega) (by omega) (by omega)).mono ?_
          rintro e w6 ⟨bo, rfl, r6, u6⟩
          have st6 := hst.tick hRK r6 u6
          clear r6 u6 hst
          cases bo
          · go_wp2_with fail
            go_ret2
            obtain ⟨aP, cP, e1, _, hpit⟩ := (HO.out _ st6.u).pit
            injection e1 with e2 e3 e4
            subst e2
            exact ⟨ps.map PB.blk, rowsK M3 ps.length ps.length, g, C, p, cv, by rw [List.length_map, rowsK_len]; rfl, by simpa using h9, by rw [rowsK_len]; omega, by simpa using hC, by rw [rowsK_len]; exact hcv, hpit, st6.t.tab (by omega), hR ▸ HB.out _ st6.u⟩
          · have hz := st6.u.size
            go_wp2_with (at_builtin; (refine appRow (.tmp 109) (.tmp 111) (by rfl) rfl w2.heap.size (.slice (some ⟨p, 0, none⟩) ps.length cv) _ ps.length (.slice (some ⟨w6.heap.size, 0, none⟩) 0 0) (w6.heap.size + 1) 1 rfl ((st6.t.below (((Below.refl _ _).alloc (Nat.le_refl _) _).alloc (by first | omega | (simp; done) | (simp; omega)) _)).own) rfl (one_cell _ _ _ _ (by simp)) rfl (by omega) (by first | omega | (simp; done) | (simp; omega)) ?_; intro v' w7 hown7 b7 hg7 hn7 hat7; have u7 := st6.u.trans (Upto.of (Below.trans (((Below.refl _ _).alloc hz _).alloc (by first | omega | (simp; done) | (simp; omega)) _) b7)); have hf7 := ownsRow_form hown7))
            obtain ⟨g7, c7, rfl, hc7⟩ : ∃ g7 c7, v' = .slice (some ⟨g7, 0, none⟩) (ps.length + 1) c7 ∧ ps.length + 1 ≤ c7 := by
              obtain ⟨a7, c7, e7, h7, h8⟩ := hf7
              obtain ⟨g7, rfl, _⟩ := h8 (by omega)
              exact ⟨g7, c7, e7, h7⟩
            have ht7 := (st6.t.below (((Below.refl _ _).alloc (Nat.le_refl _) (.cells #[] 3)).alloc (by simp) (.cells #[.slice (some ⟨w6.heap.size, 0, none⟩) 0 0] 26))).tab_more hg7 (by omega) hown7
            clear hg7 hn7 hat7 hown7 hf7 b7
            go_wp2_with fail
            go_ret2
            obtain ⟨aP, cP, e1, _, hpit⟩ := (HO.out _ u7).pit
            injection e1 with e2 e3 e4
            subst e2
            exact ⟨ps.map PB.blk, rowsK M3 ps.length ps.length ++ [[]], g, C, g7, c7, by rw [List.length_map, List.length_append, rowsK_len]; rfl, by simpa using h9, by rw [List.length_append, rowsK_len]; simp; omega, by simpa using hC, by rw [List.length_append, rowsK_len]; exact hc7, hpit, ht7, hR ▸ HB.out _ u7⟩

theorem drawPaySum_any (a : Option Addr) (n c : Nat) (w : World) (hc : n ≤ c) (hn : n ≤ 1048576) (hb : Bytes w a n) : Calls Tryd.prog 59 #[.slice a n c] w (DrawnPay w) := by
  go_enter Tryd.func59, Tryd.ntmps59
  go_wp2_with fail
  refine (l20Open_any a n c w hc hn hb).mono ?_
  rintro e w1 ⟨n', c', rfl, hr, b1⟩
  go_wp2_with fail
  refine (l20Pay_any a n' c' w w1 hr b1).mono ?_
  rintro e w2 ⟨bs, pay, g, C, gP, CP, rfl, h⟩
  go_wp2_with fail
  go_ret2
  exact ⟨bs, pay, g, C, gP, CP, rfl, h⟩
theorem drawPayOk_any (a : Option Addr) (n c : Nat) (w : World) (hc : n ≤ c) (hn : n ≤ 1048576) (hb : Bytes w a n) : Calls Tryd.prog 43 #[.slice a n c] w (DrawnPay w) := by
  go_enter Tryd.func43, Tryd.ntmps43
  go_wp2_with fail
  refine (l20Open_any a n c w hc hn hb).mono ?_
  rintro e w1 ⟨n', c', rfl, hr, b1⟩
  go_wp2_with fail
  refine (l20Pay_any a n' c' w w1 hr b1).mono ?_
  rintro e w2 ⟨bs, pay, g, C, gP, CP, rfl, h⟩
  go_wp2_with fail
  go_ret2
  exact ⟨bs, pay, g, C, gP, CP, rfl, h⟩
end Go.Proofs.YtnjpifaphmeepaaDoor
