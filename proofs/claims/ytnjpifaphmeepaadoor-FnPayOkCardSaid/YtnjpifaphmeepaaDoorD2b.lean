/- Walks: spec.l20Pit again: who owns the drawn pit's blocks. -/
import Derived.Test.YtnjpifaphmeepaaDoorD2
namespace Go.Proofs.YtnjpifaphmeepaaDoor
open Go Go.RowKit

set_option maxRecDepth 100000 in
set_option maxHeartbeats 2000000 in
theorem l20Pit_own (R : Nat) (a : Option Addr) (n c p : Nat) (m : Nat) (w : World) (h : Rdr w R a n c p) (hp : p ≤ 1000) (hm1 : 0 < m) (hm : m ≤ 1000) :
    Calls Tryd.prog 64 #[.pointer (some ⟨R, 0, none⟩), .int .i64 m] w fun e w' => ∃ (ps : List PB) (g C p' : Nat), e = .returned (.slice (some ⟨g, 0, none⟩) ps.length C) ∧ ps.length ≤ 9 ∧ ps.length ≤ C ∧ OwnPit w' w.heap.size w'.heap.size (.slice (some ⟨g, 0, none⟩) ps.length C) ps ∧
      Rdr w' R a n c p' ∧ p' ≤ p + 400 ∧ Upto w.heap.size R w w' := by
  obtain ⟨B, hB⟩ : ∃ B, w.heap.size = B := ⟨_, rfl⟩
  have hRB : R < B := by rw [← hB]; exact h.lt
  have hcode : ∀ b off, 0 < n → a = some ⟨b, off, none⟩ → b < B := fun b off hn e => by
    obtain ⟨b', off', e', hlt, _⟩ := h.bytes hn
    rw [e] at e'; cases e'; omega
  rw [hB]
  go_enter Tryd.func64, Tryd.ntmps64
  go_wp2_with fail
  obtain ⟨W0, hW0⟩ : ∃ W0, W0 = w.alloc (.cells #[] 28) := ⟨_, rfl⟩
  have b0 : Below B w W0 := by rw [hW0]; exact (Below.refl _ _).alloc (Nat.le_of_eq hB.symm) _
  have z0 : B < W0.heap.size := by rw [hW0]; simp; omega
  have hout : OwnPit W0 B (B + 1) (.slice (some ⟨B, 0, none⟩) 0 0) [] := by
    refine ⟨?_, fun k hk => by cases hk; exact Nat.lt_succ_self _, fun x hx => by cases hx⟩
    rw [hW0, ← hB]
    exact World.ownsRow_lit w #[] 0 (Nat.le_refl _) (by decide) rfl
  have r0 : Rdr W0 R a n c p := h.keep hRB hcode b0
  rw [← hW0]
  clear hW0
  refine (pick_up R a n c p 4 W0 r0 (by omega) (by omega)).mono ?_
  rintro e w1 ⟨often, rfl, ho1, ho2, r1, u1⟩
  replace ho1 := ho1 (by omega)
  clear ho2
  go_wp2_with fail
  refine (pick_up R a n c (p + 1) 9 w1 r1 (by omega) (by omega)).mono ?_
  rintro e w2 ⟨k0, rfl, hk1, hk2, r2, u2⟩
  replace hk1 := hk1 (by omega)
  clear hk2
  have u3 : Upto B R w w2 := (Upto.of b0).trans ((u1 B).trans (u2 B))
  have z3 : B + 1 ≤ w2.heap.size := Nat.le_trans z0 (Nat.le_trans (u1 0).size (u2 0).size)
  have ho : OwnPit w2 B (B + 1) (.slice (some ⟨B, 0, none⟩) 0 0) [] := (hout.upto hRB (u1 _)).upto hRB (u2 _)
  clear u1 u2 r1 r0 hout b0 z0
  go_wp2_with fail
  go_loopw [5, 7] (fun out kk wr => ∃ (k q K : Nat) (v : Value) (ps : List PB), k ≤ 8 ∧ kk = .int .i64 k ∧ out = v ∧ ps.length + k ≤ 8 ∧ v ≠ .slice none 0 0 ∧ OwnPit wr B K v ps ∧ K ≤ wr.heap.size ∧ Rdr wr R a n c q ∧ q + 20 * k ≤ p + 200 ∧ Upto B R w wr) (fun _ kk _ => (intOf kk).toNat)
  case atStart => exact ⟨k0, p + 1 + 1, B + 1, _, [], by omega, rfl, rfl, by simp; omega, by simp, ho, z3, r2, by omega, u3⟩
  case round =>
    obtain ⟨k, q, K, v, ps, hk, rfl, rfl, hlen, hnv, ho, hz, hr, hq, hu⟩ := hrel
    clear r2 u3 z3
    by_cases hk0 : 0 < k
    · obtain ⟨o1, c1, rfl, _, _⟩ := ho.pit
      go_wp2_with fail
      refine (pick_up R a n c q 25 wr hr (by omega) (by omega)).mono ?_
      rintro e w3 ⟨x25, rfl, hx1, hx2, r3, u3⟩
      replace hx1 := hx1 (by omega)
      clear hx2
      have ho3 := ho.upto hRB (u3 K)
      have hu3 := hu.trans (u3 B)
      have hz3 : K ≤ w3.heap.size := Nat.le_trans hz (u3 0).size
      clear u3 ho hu hr
      go_wp2_with fail
      obtain ⟨X, hX⟩ : ∃ X, w3.heap.size = X := ⟨_, rfl⟩
      rw [hX] at hz3 ⊢
      obtain ⟨W4, hW4⟩ : ∃ W4, W4 = w3.alloc (.cells #[.int .i64 ((x25 : Int) - 12), .slice none 0 0] 28) := ⟨_, rfl⟩
      have hBX : B ≤ X := by have := hu3.size; omega
      have b4 : Below X w3 W4 := by rw [hW4, ← hX]; exact (Below.refl _ _).alloc (Nat.le_refl _) _
      have d1 : W4.cell? ⟨X, 0, none⟩ = some (.int .i64 ((x25 : Int) - 12)) := by rw [hW4, ← hX]; simp
      have d2 : W4.cell? ⟨X, 1, none⟩ = some (.slice none 0 0) := by rw [hW4, ← hX]; simp
      have d3 : W4.frozen? ⟨X, 1, none⟩ = false := by rw [hW4, ← hX]; simp
      have z4 : X < W4.heap.size := by rw [hW4]; simp; omega
      rw [← hW4]
      clear hW4
      have ho4 := ho3.upto hRB (Upto.of (b4.mono hz3))
      have r4 := r3.keep hRB hcode (b4.mono hBX)
      have u4 := hu3.trans (Upto.of (b4.mono hBX))
      clear ho3 r3 hu3 b4
      go_loopw [9] (fun jj wi => ∃ (j q' : Nat) (vn : Value) (ns : List Int), j ≤ ps.length ∧ jj = .int .i64 j ∧ ns.length ≤ j ∧ wi.cell? ⟨X, 0, none⟩ = some (.int .i64 ((x25 : Int) - 12)) ∧ wi.cell? ⟨X, 1, none⟩ = some vn ∧ wi.frozen? ⟨X, 1, none⟩ = false ∧
        wi.ownsRow (X + 1) 3 1 vn ns.length (ns.map (Value.int .i64)) ∧ OwnPit wi B K (.slice o1 ps.length c1) ps ∧ X < wi.heap.size ∧ Rdr wi R a n c q' ∧ q' ≤ q + 1 + j ∧ Upto B R w wi) (fun jj _ => ps.length - (intOf jj).toNat)
      case atStart => exact ⟨0, q + 1, _, [], by omega, rfl, by simp, d1, d2, d3, World.ownsRow_nil _ _ _ _, ho4, z4, r4, by omega, u4⟩
      case round =>
        clear d1 d2 d3 z4 r4 u4 ho4
        obtain ⟨j, q', vn, ns, hj, rfl, hns, d1, d2, d3, hrow, ho, hz4, hr, hq', hu⟩ := hrel
        by_cases hlt : j < ps.length
        · go_wp2_with fail
          refine (pick_up R a n c q' 5 wr hr (by omega) (by omega)).mono ?_
          rintro e w5 ⟨x5, rfl, hx1, hx2, r5, u5⟩
          replace hx1' := hx1 (by omega)
          clear hx2 hx1
          have ho5 := ho.upto hRB (u5 K)
          have hu5 := hu.trans (u5 B)
          have z5 : X < w5.heap.size := Nat.lt_of_lt_of_le hz4 (u5 0).size
          have e1 : w5.cell? ⟨X, 0, none⟩ = some (.int .i64 ((x25 : Int) - 12)) := by rw [(u5 (X + 1)).cell (p := ⟨X, 0, none⟩) (Nat.lt_succ_self X) (by show X ≠ R; omega)]; exact d1
          have e2 : w5.cell? ⟨X, 1, none⟩ = some vn := by rw [(u5 (X + 1)).cell (p := ⟨X, 1, none⟩) (Nat.lt_succ_self X) (by show X ≠ R; omega)]; exact d2
          have e3 : w5.frozen? ⟨X, 1, none⟩ = false := by rw [(u5 (X + 1)).frozen (p := ⟨X, 1, none⟩) (Nat.lt_succ_self X) (by show X ≠ R; omega)]; exact d3
          have hrow5 := ownsRow_upto hrow (u5 (wr.heap.size)) fun k hk => ⟨(hrow.lt k hk).2, by have := (hrow.lt k hk).1; omega⟩
          clear u5 ho hu d1 d2 d3 hrow hr
          by_cases hyes : x5 < often
          · obtain ⟨an, cn, rfl, hcn, _⟩ := ints_of_owns hrow5
            go_wp2_with (at_builtin; refine appInt _ _ rfl rfl (X + 1) _ ns j _ _ rfl (World.ownsRow.alloc hrow5 _) rfl (one_cell _ _ _ _ rfl) (by omega) (by simp; omega) ?_; intro v' w6 hrow6 b6; obtain ⟨an', cn', rfl, hcn', _⟩ := ints_of_owns hrow6; have b6' : Below (X + 1) w5 w6 := ((Below.refl _ _).alloc z5 _).trans b6; have f3 : w6.frozen? ⟨X, 1, none⟩ = false := (b6'.frozen (p := ⟨X, 1, none⟩) (Nat.lt_succ_self X)).trans e3; have f2 : w6.cell? ⟨X, 1, none⟩ = some (.slice an ns.length cn) := (b6'.cell (p := ⟨X, 1, none⟩) (Nat.lt_succ_self X)).trans e2)
            have f1 : w6.cell? ⟨X, 0, none⟩ = some (.int .i64 ((x25 : Int) - 12)) := by rw [b6'.cell (p := ⟨X, 0, none⟩) (Nat.lt_succ_self X)]; exact e1
            have b7 : Below X w5 (w6.setCell ⟨X, 1, none⟩ (.slice an' (ns.length + 1) cn')) := (b6'.mono (Nat.le_succ X)).setCell (p := ⟨X, 1, none⟩) (Nat.le_refl X) _
            go_roundw
            case rel =>
              refine ⟨j + 1, q' + 1, .slice an' (ns.length + 1) cn', ns ++ [(j : Int)], by omega, by go_num, by simp; omega, ?_, ?_, ?_, ?_, ho5.upto hRB (Upto.of (b7.mono hz3)), Nat.lt_of_lt_of_le z5 b7.size, r5.keep hRB hcode (b7.mono hBX), by omega, hu5.trans (Upto.of (b7.mono hBX))⟩
              · rw [World.cell?_setCell_other _ _ _ _ (by simp)]; exact f1
              · exact World.cell?_setCell_same _ _ _ f2
              · rw [World.frozen?_setCell]; exact f3
              · have hl7 : (ns ++ [(j : Int)]).length = ns.length + 1 := by simp
                rw [hl7] at hrow6 ⊢
                exact ownsRow_upto hrow6 (Upto.tick w6.heap.size X 0 w6 _) fun k hk => ⟨(hrow6.lt k hk).2, by have := (hrow6.lt k hk).1; omega⟩
            case measure => simp [intOf] <;> omega
          · go_wp2
            go_roundw
            case rel => exact ⟨j + 1, q' + 1, vn, ns, by omega, by go_num, by omega, e1, e2, e3, hrow5, ho5, z5, r5, by omega, hu5⟩
            case measure => simp [intOf] <;> omega
        · have hjl : j = ps.length := by omega
          obtain ⟨an, cn, rfl, hcn, _⟩ := ints_of_owns hrow
          obtain ⟨hn1, hn2⟩ := needs_of_row (B := B) (wd := (x25 : Int) - 12) hrow hBX (by omega)
          have hwr : wr.heap.size < (wr.alloc (.cells #[.int .i64 ((x25 : Int) - 12), .slice an ns.length cn] 28)).heap.size := by simp
          have hKw : K ≤ wr.heap.size := by omega
          go_wp2_with (at_builtin; refine appBlk _ _ rfl rfl B K (.slice o1 ps.length c1) ps ⟨(x25 : Int) - 12, ns, an, cn⟩ wr.heap.size 1 rfl (ho.upto hRB (Upto.of ((Below.refl _ _).alloc hKw _))) rfl (by simp) (by simp) (((hn1.upto hRB (Upto.of ((Below.refl _ _).alloc (Nat.le_refl _) _)))).mono (by simp)) (fun g h1 h2 h3 => by have := hn2 g h1 h2; have := ho.2.1 g h3; omega) (by omega) (by simp; omega) ?_; intro v' w7 ho7 b7 hv7)
          have b8 : Below B wr w7 := ((Below.refl _ _).alloc (by omega) _).trans b7
          go_roundw
          case rel => exact ⟨k - 1, q', w7.heap.size, v', ps ++ [⟨(x25 : Int) - 12, ns, an, cn⟩], by omega, by go_num, rfl, by simp; omega, hv7, ho7, Nat.le_refl _, hr.keep hRB hcode b8, by omega, hu.trans (Upto.of b8)⟩
          case measure => simp [intOf] <;> omega
    · have hk00 : k = 0 := by omega
      subst hk00
      obtain ⟨o1, c1, rfl, hlc, _⟩ := ho.pit
      go_wp2_with fail
      refine (odd_up R a n c q m wr hr (by omega) hm1 (by omega)).mono ?_
      rintro e w3 ⟨bo, rfl, r3, u3⟩
      have ho3 := ho.upto hRB (u3 K)
      have hu3 := hu.trans (u3 B)
      have hz3 : K ≤ w3.heap.size := Nat.le_trans hz (u3 0).size
      clear u3 ho hu hr
      cases bo
      · go_wp2_with fail
        go_ret
        obtain ⟨g, c', e, _⟩ := ho3.form hnv
        injection e with e1 e2 e3
        subst e1 e3
        exact ⟨ps, g, c1, q + 1, rfl, by omega, by omega, ho3.mono hz3, r3, by omega, hu3⟩
      · go_wp2_with fail
        refine (pick_up R a n c (q + 1) 3 w3 r3 (by omega) (by omega)).mono ?_
        rintro e w4 ⟨x3, rfl, hx1, hx2, r4, u4⟩
        replace hx1 := hx1 (by omega)
        clear hx2
        have ho4 := ho3.upto hRB (u4 K)
        have hu4 := hu3.trans (u4 B)
        have hz4 : K ≤ w4.heap.size := Nat.le_trans hz3 (u4 0).size
        clear u4 ho3 hu3 r3
        have hBw : B ≤ w4.heap.size := by rw [← hB]; exact hu4.size
        by_cases h0 : x3 = 0
        · subst h0
          have mk := mkBlk9
          go_wp2_with fail
          go_ret
          have bb : Below B w4 (w4.alloc (.cells (madeCells #[.int .i64 0, .slice none 0 0] 18) 28)) := (Below.refl _ _).alloc hBw _
          exact ⟨List.replicate 9 (⟨0, [], none, 0⟩ : PB), _, 9, q + 1 + 1, rfl, by simp, by simp, (own_nine w4 B hBw).mono (by simp), r4.keep hRB hcode bb, by omega, hu4.trans (Upto.of bb)⟩
        · by_cases h1 : x3 = 1
          · subst h1
            go_wp2_with fail
            go_ret
            have bb : Below B w4 ((w4.alloc (.cells #[.int .i64 0] 3)).alloc (.cells #[.int .i64 1, .slice (some ⟨w4.heap.size, 0, none⟩) 1 1] 28)) := ((Below.refl _ _).alloc hBw _).alloc (by simp; omega) _
            exact ⟨([⟨1, [0], some ⟨w4.heap.size, 0, none⟩, 1⟩] : List PB), _, 1, q + 1 + 1, rfl, by simp, by simp, (own_one w4 B 1 hBw).mono (by simp), r4.keep hRB hcode bb, by omega, hu4.trans (Upto.of bb)⟩
          · have h2 : x3 = 2 := by omega
            subst h2
            obtain ⟨g, c1', e1, hgc, hBg, hgK⟩ := ho4.form hnv
            injection e1 with e2 e3 e4
            subst e2 e4
            clear e3
            obtain ⟨t, oo, n', c', hmin, hsl, hoo, hn'⟩ : ∃ (t : Int) (oo n' c' : Nat), min 1 (ps.length : Int) = t ∧ (∀ W : World, (Instr.slice 23 (.slice (some ⟨g, 0, none⟩) ps.length c1) (some (.int .i64 t)) none none).run Tryd.prog W =
                  .ok (.slice (some ⟨g, oo, none⟩) n' c') W) ∧ (1 < ps.length → oo = 2) ∧ (ps.drop 1).length = n' := by
              by_cases hps : ps.length = 0
              · refine ⟨0, 0, 0, c1, by omega, fun W => ?_, by omega, by simp; omega⟩
                simp [go_sem, sliced, hps]
              · refine ⟨1, if c1 = 1 then 0 else 2, ps.length - 1, c1 - 1, by omega, fun W => ?_, fun h => by rw [if_neg (by omega)], by simp⟩
                by_cases e : c1 = 1 <;> simp [go_sem, sliced, e] <;> omega
            have hKw : K ≤ w4.heap.size := hz4
            go_wp2_with fail
            go_region_law (first
              | (refine stepHead (.tmp 56) (.tmp 61) (by rfl) (by rfl) B K g c1 oo n' c' ps (zOf y) _ (by rfl) (by first | exact Deep.blk_alloc_new _ _ | exact blk_second _ _ _) (by omega) (by omega) (hoP.upto hRB (Upto.of (by repeat (first | exact Below.refl _ _ | refine Below.drew ?_ | refine Below.alloc ?_ (by first | omega | (simp; omega)) _)))) hoo hn' (by rfl) (by omega) ?_; intro v' w7 ho7 b7 hv7)
              | (go_simp; go_at_call 79; refine (pick_up R a n c (q + 1 + 1) 2 _ (r4.keep hRB hcode (by repeat (first | exact Below.refl _ _ | refine Below.drew ?_ | refine Below.alloc ?_ (by first | omega | (simp; omega)) _))) (by omega) (by omega)).mono ?_; rintro e w5 ⟨y, rfl, hy1, hy2, r5, u5⟩; replace hy1 := hy1 (by omega); have htwo := two_at y hy1; have hcell := (u5 (w4.heap.size + 1)).cell (p := ⟨w4.heap.size, y, none⟩) (Nat.lt_succ_self _) (by show w4.heap.size ≠ R; omega); (try replace hcell := hcell.trans (htwo w4)); have hoP : OwnPit w5 B K (.slice (some ⟨g, 0, none⟩) ps.length c1) ps := ho4.upto hRB ((Upto.of (by repeat (first | exact Below.refl _ _ | refine Below.drew ?_ | refine Below.alloc ?_ (by first | omega | (simp; omega)) _))).trans (u5 K)); have z5 : w4.heap.size ≤ w5.heap.size := Nat.le_trans (by simp) (u5 0).size; have u6 : Upto B R w4 w5 := (Upto.of (by repeat (first | exact Below.refl _ _ | refine Below.drew ?_ | refine Below.alloc ?_ (by first | omega | (simp; omega)) _))).trans (u5 B)))
            all_goals
              obtain ⟨g', c2, rfl, hc2, _, _⟩ := ho7.form hv7
              have b8 : Below B w5 w7 := Below.trans (by repeat (first | exact Below.refl _ _ | refine Below.drew ?_ | refine Below.alloc ?_ (by first | omega | (simp; omega)) _)) b7
              have hr7 := r5.keep hRB hcode b8
              have hu7 := hu4.trans (u6.trans (Upto.of b8))
              clear hcell htwo hsl hmin hn' hoo u5 u6 r5 b8 b7 hoP
              go_wp2_with fail
              go_ret
              exact ⟨_, _, c2, q + 1 + 1 + 1, rfl, by simp; omega, hc2, ho7, hr7, by omega, hu7⟩
end Go.Proofs.YtnjpifaphmeepaaDoor
