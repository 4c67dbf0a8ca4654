/- Walks: PitRaise of spec: two appends in one statement. -/
import Derived.Test.YtnjpifaphmeepaaDoorW13
import Derived.Test.YtnjpifaphmeepaaDoorS5
namespace Go.Proofs.YtnjpifaphmeepaaDoor
open Go Go.RowKit

theorem run_append_nilsrc (w : World) (Z c : Nat) (ty : TypeId) : (Builtin.append_ #[26, 26] ty #[.slice (some ⟨Z, 0, none⟩) 0 0, .slice none 0 c]).run Tryd.prog w = .ok (.slice (some ⟨Z, 0, none⟩) 0 0) w := by
  obtain ⟨i0, hi, hz0, hz1, hz2⟩ := info_parts infoInt
  simp [Builtin.append_, run_underlying Tryd.underlying26, sizeOf, typeInfo, hi, Builtin.lenOf, Builtin.firstCells, loadCells, loadCellsFrom, storeCells]

theorem stepInts {w : World} {ops : Array Oper} {o : Oper} {a : Act} {K : Act → World → Prop} {Q : Exit → Act → World → Prop} {E : Prop} (s x : Operand) (hg : o.guard = none)
    (hop : o.op = .call { callee := .builtin .append, args := #[s, x], argTypes := #[26, 26] }) (M Z : Nat) (ys : List Int) (A : Option Addr) (c : Nat)
    (hs : a.eval s = .slice (some ⟨Z, 0, none⟩) 0 0) (hZ : w.heap[Z]? = some (.cells #[] 3 (0, 0))) (hM : M ≤ Z) (hx : a.eval x = .slice A ys.length c) (hy : Ints w A ys) (hl : ys.length ≤ 1048576)
    (hK : ∀ g' c' w', OwnZ w' M (.slice (some ⟨g', 0, none⟩) ys.length c') ys → Below M w w' → K (a.put o.dst (.slice (some ⟨g', 0, none⟩) ys.length c')) w') : if Region.wanted o (yielded ops a.tmps) = true then Oper.wp Tryd.prog o a w K Q else E := by
  have hw : Region.wanted o (yielded ops a.tmps) = true := by simp [Region.wanted, hg]
  rw [if_pos hw]
  have hZlt : Z < w.heap.size := (Array.getElem?_eq_some_iff.1 hZ).1
  have hown : OwnZ w M (.slice (some ⟨Z, 0, none⟩) 0 0) [] := ⟨rfl, .inr ⟨Z, 0, _, rfl, hM, hZ, by simp, by decide, rfl, rfl⟩⟩
  cases A with
  | none =>
    have hx0 : ys = [] := by
      rcases hy with e | ⟨b, off, e, _⟩
      · exact e
      · cases e
    subst hx0
    have hr := run_append_nilsrc w Z c o.type
    unfold Oper.wp execOp
    simp only [hop, resolve, invoke, builtin, Sem.run_bind, Sem.run_pure, Result.andThen_ok, List.map_toArray, List.map_cons, List.map_nil, hs, hx, List.length_nil, hr]
    exact hK Z 0 w hown (Below.refl _ _)
  | some ad =>
    obtain ⟨i0, hi, hz0, hz1, hz2⟩ := info_parts infoInt
    obtain ⟨v', w', hr, h2, h3, h4, h5⟩ := run_append_own_at (P := Tryd.prog) w M 26 o.type 3 i0 (.int .i64 0) 1 8 Tryd.underlying26 hi hz0 hz1 hz2 rfl (by decide) _ 0 _ hown ad ys.length c (ys.map (Value.int .i64)) (by simp) hy.cellsA
      (by intro u hu; obtain ⟨y, _, rfl⟩ := List.mem_map.1 hu; rfl) (by unfold maxLen; omega) (by omega) (by omega)
    have ho : OwnZ w' M v' ys := by unfold OwnZ; simpa using h2
    obtain ⟨g', c', e', _, _, _⟩ := ho.form (fun e => by have := (h4.1 e).1; simp at this)
    subst e'
    unfold Oper.wp execOp
    simp only [hop, resolve, invoke, builtin, Sem.run_bind, Sem.run_pure, Result.andThen_ok, List.map_toArray, List.map_cons, List.map_nil, hs, hx, hr]
    exact hK g' c' w' ho (grown_below h3 (by omega) fun k hk => by have : Z = k := Option.some.inj hk; omega)

theorem stepBlk {w : World} {ops : Array Oper} {o : Oper} {a : Act} {K : Act → World → Prop} {Q : Exit → Act → World → Prop} {E : Prop} (s x : Operand) (hg : o.guard = none)
    (hop : o.op = .call { callee := .builtin .append, args := #[s, x], argTypes := #[23, 23] }) (B : Nat) (v : Value) (ps : List PB) (px : PB) (y c : Nat) (hs : a.eval s = v)
    (ho : OwnB w B v ps) (hx : a.eval x = .slice (some ⟨y, 0, none⟩) 1 c) (hq : RdB w ⟨y, 0, none⟩ [px]) (hne : ∀ b o, 0 < px.needs.length → px.a = some ⟨b, o, none⟩ → v.ownBlock ≠ some b) (hl : ps.length ≤ 1048576) (hB : B ≤ w.heap.size)
    (hK : ∀ v' w', OwnB w' B v' (ps ++ [px]) → Below B w w' → (v ≠ .slice none 0 0 → v' ≠ .slice none 0 0) → K (a.put o.dst v') w') : if Region.wanted o (yielded ops a.tmps) = true then Oper.wp Tryd.prog o a w K Q else E := by
  have hw : Region.wanted o (yielded ops a.tmps) = true := by simp [Region.wanted, hg]
  rw [if_pos hw]
  obtain ⟨i0, hi, hz0, hz1, hz2⟩ := info_parts infoBlkD
  obtain ⟨o1, o3⟩ := ho
  obtain ⟨v', w', hr, hown', hgr, hnil, hat⟩ := run_append_own_at (P := Tryd.prog) w B 23 o.type 28 i0 _ 2 32 Tryd.underlying23 hi hz0 hz1 hz2 rfl (by decide) v ps.length _ o1 ⟨y, 0, none⟩ 1 c _ (flat_len [px]) hq.1 (PB.flat_one [px]) (by unfold maxLen; omega) (by omega) hB
  unfold Oper.wp execOp
  simp only [hop, resolve, invoke, builtin, Sem.run_bind, Sem.run_pure, Result.andThen_ok, List.map_toArray, List.map_cons, List.map_nil, hs, hx, hr]
  refine hK v' w' ⟨by rw [List.length_append, List.flatMap_append]; exact hown', fun z hz => ?_⟩ (grown_below hgr hB fun k hk => (o1.lt k hk).1) (fun h1 h2 => h1 (hnil.1 h2).1)
  have key : z.Ok w → (∀ b o, 0 < z.needs.length → z.a = some ⟨b, o, none⟩ → v.ownBlock ≠ some b) → z.Ok w' ∧ ∀ b o, 0 < z.needs.length → z.a = some ⟨b, o, none⟩ → v'.ownBlock ≠ some b := fun h1 h2 =>
    ⟨h1.grown hgr h2, fun b o h3 h4 => by
      rcases hat with e | e
      · rw [e]; exact h2 b o h3 h4
      · rw [e]
        have := Ints.lt (h4 ▸ h1.2.2.2) h3
        simp; omega⟩
  rcases List.mem_append.1 hz with hz | hz
  · exact key (o3 z hz).1 (o3 z hz).2
  · obtain rfl := List.mem_singleton.1 hz
    exact key (hq.2 z (by simp)) hne

set_option maxRecDepth 100000 in
set_option maxHeartbeats 2000000 in
theorem sRaise_any (a : Option Addr) (c : Nat) (bs : List Blk) (x : Int) (w : World) (hl : bs.length ≤ 1048576) (hs : Pit w a bs) :
    Calls Tryd.prog 56 #[.slice a bs.length c, .int .i64 x] w (PitOut2 (raiseF bs x) w) := by
  obtain ⟨B, hB⟩ : ∃ B, w.heap.size = B := ⟨_, rfl⟩
  go_enter Tryd.func56, Tryd.ntmps56
  go_wp2_with fail
  obtain ⟨W0, hW0⟩ : ∃ W0, W0 = w.alloc (.cells #[] 28) := ⟨_, rfl⟩
  have b0 : Below B w W0 := by rw [hW0]; exact (Below.refl _ _).alloc (Nat.le_of_eq hB.symm) _
  have z0 : B < W0.heap.size := by rw [hW0]; simp; omega
  have ho : OwnB W0 B (.slice (some ⟨B, 0, none⟩) 0 0) [] := by rw [hW0, ← hB]; exact OwnB.lit w _ (Nat.le_refl _)
  rw [← hW0]
  clear hW0
  cases hv : raiseOk bs x
  · have HE : Hid (raiseF bs x = []) := by show _ = _; simp [raiseF, hv]
    go_loopw [5, 6] (fun v i wr => i = .int .i64 0 ∧ v = .slice (some ⟨B, 0, none⟩) 0 0 ∧ wr = W0) (fun _ i _ => 0 * (intOf i).toNat)
    case atStart => exact ⟨rfl, rfl, rfl⟩
    case round =>
      obtain ⟨rfl, rfl, rfl⟩ := hrel
      have fin : ∀ q, PitOut2 (raiseF bs x) w (.returned (.slice (some ⟨B, 0, none⟩) 0 0)) (wr.drewN q) := fun q => ⟨_, 0, by rw [HE.out]; rfl, by rw [HE.out]; simp, by rw [HE.out]; exact .inl rfl, hB ▸ below_drewN b0 q⟩
      have HFI := Lib.hid fin
      clear fin
      by_cases h0 : 0 < bs.length
      · cases hp : pitOk bs
        · go_wp2_with (go_at_call 19; refine (spitValid_any _ _ _ _ hl (hs.below (hB ▸ b0))).mono ?_; rintro e w' ⟨rfl, q, rfl⟩)
          go_ret
          exact HFI.out q
        · have hin : sIn x 0 20 = false := by
            simp only [raiseOk, hp, Bool.true_and] at hv
            exact hv
          go_wp2_with (first | (go_at_call 19; refine (spitValid_any _ _ _ _ hl (hs.below (hB ▸ b0))).mono ?_; rintro e w' ⟨rfl, q, rfl⟩) | (go_at_call 68; refine (l1In_any _ _ _ _).mono ?_; rintro e w' ⟨rfl, rfl⟩))
          go_ret
          exact HFI.out q
      · go_wp2
        go_ret
        exact HFI.out 0
  obtain ⟨hp, hx0, hx1⟩ := raiseOk_of hv
  have hl8 := pitOk_len hp
  have hin : sIn x 0 20 = true := by simp [sIn, hx0, hx1]
  have HE : Hid (raiseF bs x = raiseL bs x) := by show _ = _; simp [raiseF, hv]
  go_loopw [5, 6] (fun v i wr => ∃ (k : Nat) (ps : List PB), k ≤ bs.length ∧ i = .int .i64 k ∧ v ≠ .slice none 0 0 ∧ OwnB wr B v ps ∧ Hid (ps.map PB.blk = (raiseL bs x).take k) ∧ B ≤ wr.heap.size ∧ Below B w wr) (fun _ i _ => bs.length - (intOf i).toNat)
  case atStart => exact ⟨0, [], by omega, rfl, by simp, ho, rfl, by omega, b0⟩
  case round =>
    obtain ⟨k, ps, hk, rfl, hnv, ho, HM, hzB, hb⟩ := hrel
    clear b0 z0
    have hlr : (raiseL bs x).length = bs.length := by simp [raiseL]
    have hpl : ps.length = k := by have := congrArg List.length HM.out; simp [hlr] at this; omega
    have HPL := Lib.hid hpl
    have HLR := Lib.hid hlr
    clear hpl hlr
    have hps := hs.below (hB ▸ hb)
    obtain ⟨g, c1, rfl, hgc, hBg, hgw, _⟩ := ho.form hnv
    by_cases hlt : k < bs.length
    · have hplk : ps.length ≤ 8 := by have := HPL.out; omega
      go_wp2_with (first | (go_at_call 19; refine (spitValid_any _ _ _ _ hl hps).mono ?_; rintro e w' ⟨rfl, q1, rfl⟩) | (go_at_call 68; refine (l1In_any _ _ _ _).mono ?_; rintro e w' ⟨rfl, rfl⟩))
      obtain ⟨W3, hW3⟩ : ∃ W3, W3 = wr.drewN q1 := ⟨_, rfl⟩
      rw [← hW3]
      have bW : Below wr.heap.size wr W3 := by rw [hW3]; exact below_drewN (Below.refl _ _) _
      replace ho := ho.below bW
      replace hb := hb.trans (bW.mono hzB)
      replace hps := hps.below bW
      have hzW := bW.size
      replace hgw : g < W3.heap.size := by omega
      replace hzB : B ≤ W3.heap.size := by omega
      clear hW3 bW hzW hs
      obtain ⟨b, off, A, C, rfl, hbw, h1, h2, h3, h4, h5, h6⟩ := Pit.at hps hlt
      obtain ⟨hw1, hw2⟩ := pitOk_worth hp hlt
      have HB : Hid (raiseB x (nth bs k) = ⟨min ((nth bs k).worth + x) 20, (nth bs k).needs⟩) := rfl
      generalize (nth bs k).worth = wk at h1 hw1 hw2 HB
      generalize (nth bs k).needs = N at h2 h3 h4 h6 HB
      have hI1 : (k : Int) < (bs.length : Int) := by omega
      have hI2 : IntKind.i64.wrap (wk + x) = wk + x := IntWalk.i64_in _ (by omega)
      have h1a := fun o => (alloc_cell W3 o b (off + k * 2) hbw).trans h1
      have h2a := fun o => (alloc_cell W3 o b (off + k * 2 + 1) hbw).trans h2
      clear h4 h5
      go_region_law (first
        | (refine stepInts (.tmp 31) (.tmp 36) (by rfl) (by rfl) W3.heap.size W3.heap.size N A C (by rfl) (by first | exact Deep.blk_alloc_new _ _) (Nat.le_refl _) (by rfl) (h6.below (by repeat (first | exact Below.refl _ _ | refine Below.drew ?_ | refine Below.alloc ?_ (by first | omega | (simp; omega)) _))) h3 ?_; intro g' c' w5 ho5 b5; have b35 : Below W3.heap.size W3 w5 := Below.trans (by repeat (first | exact Below.refl _ _ | refine Below.drew ?_ | refine Below.alloc ?_ (by first | omega | (simp; omega)) _)) b5; have h1w := (b35.cell (p := ⟨b, off + k * 2, none⟩) hbw).trans h1; have h1x := (fun o => (alloc_cell w5 o b (off + k * 2) (Nat.lt_of_lt_of_le hbw b35.size)).trans h1w); have ho6 := ho.below b35; have hz5 := b35.size; have ok6 : PB.Ok w5 ⟨min (wk + x) 20, N, some ⟨g', 0, none⟩, c'⟩ := (by obtain ⟨a1, c2, e1, e2, e3⟩ := ho5.ints; injection e1 with e4 e5 e6; subst e4 e6; exact ⟨h3, e2, OwnZ.cap ho5, e3⟩); have hfar : ∀ b o, 0 < N.length → some (⟨g', 0, none⟩ : Addr) = some ⟨b, o, none⟩ → (Value.slice (some ⟨g, 0, none⟩) ps.length c1).ownBlock ≠ some b := (fun b o _ e1 e2 => by cases e1; have e3 : g = g' := Option.some.inj e2; have := OwnZ.far ho5; omega))
        | (refine stepBlk (.tmp 22) (.tmp 39) (by rfl) (by rfl) B (.slice (some ⟨g, 0, none⟩) ps.length c1) ps ⟨min (wk + x) 20, N, some ⟨g', 0, none⟩, c'⟩ w5.heap.size 1 (by rfl) (ho6.below (by repeat (first | exact Below.refl _ _ | refine Below.drew ?_ | refine Below.alloc ?_ (by simp) _))) (by rfl) (RdB.one_at _ ⟨min (wk + x) 20, N, some ⟨g', 0, none⟩, c'⟩ _ (ok6.below (by repeat (first | exact Below.refl _ _ | refine Below.drew ?_))) (by simp)) hfar (by omega) (by first | omega | (simp; done) | (simp; omega)) ?_; intro v' w7 ho7 b7 hv7)
        | fail)
      all_goals
        obtain ⟨g7, c7, rfl, hc7, _, _, _, _⟩ := ho7.form (hv7 (by simp))
        have b8 : Below B w5 w7 := Below.trans (by repeat (first | exact Below.refl _ _ | refine Below.drew ?_ | refine Below.alloc ?_ (by first | omega | (simp; omega)) _)) b7
        have hb8 := (hb.trans (b35.mono hzB)).trans b8
        have HN8 : Hid ((ps ++ [(⟨min (wk + x) 20, N, some ⟨g', 0, none⟩, c'⟩ : PB)]).map PB.blk = (raiseL bs x).take (k + 1)) := by
          show _ = _
          rw [List.map_append, HM.out, take_nth (by rw [HLR.out]; exact hlt)]
          have e1 : nth (raiseL bs x) k = raiseB x (nth bs k) := nth_map hlt
          rw [e1, HB.out]; rfl
        have hz8 := b8.size
        rw [List.length_append] at ho7
        replace ho7 : OwnB w7 B (.slice (some ⟨g7, 0, none⟩) (ps.length + 1) c7) (ps ++ [⟨min (wk + x) 20, N, some ⟨g', 0, none⟩, c'⟩]) := ho7
        clear b7 b8 b35 b5 ho5 ho6 ok6 hfar h1a h2a h1w h1x h1 h2 h6 ho hI1 hI2
        go_wp2_with fail
        go_roundw
        case rel => exact ⟨k + 1, _, by omega, by go_num, by simp, ho7, HN8, by omega, hb8⟩
        case measure => simp [intOf] <;> omega
    · have hkk : k = bs.length := by omega
      obtain ⟨g', c1', e1, hc1, hp1⟩ := ho.out (by simp) (HM.out.trans (show (raiseL bs x).take k = raiseF bs x by rw [hkk, ← HLR.out, List.take_length, HE.out]))
      injection e1 with e2 e3 e4
      cases e2
      subst e4
      have HLN := Lib.hid e3
      clear e3 HPL
      go_wp2_with (first | (go_at_call 19; refine (spitValid_any _ _ _ _ hl hps).mono ?_; rintro e w' ⟨rfl, q1, rfl⟩) | (go_at_call 68; refine (l1In_any _ _ _ _).mono ?_; rintro e w' ⟨rfl, rfl⟩))
      go_ret
      exact ⟨some ⟨g, 0, none⟩, c1, by first | rfl | (rw [HLN.out]; rfl), hc1, hp1, hB ▸ hb⟩
end Go.Proofs.YtnjpifaphmeepaaDoor
