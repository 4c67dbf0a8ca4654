/- Walks over the reference: spec.PitClose, spec.PitFull. -/
import Derived.Test.YtnjpifaphmeepaaDoorS3
import Derived.Test.YtnjpifaphmeepaaDoorApp
import Derived.Test.YtnjpifaphmeepaaDoorClose
namespace Go.Proofs.YtnjpifaphmeepaaDoor
open Go Go.RowKit

theorem nat_pow_int (k : Nat) : ((2 : Int) ^ k) = ((2 ^ k : Nat) : Int) := by simp

set_option maxRecDepth 100000 in
theorem sClose_any (a : Option Addr) (c : Nat) (bs : List Blk) (s : Int) (w : World) (hl : bs.length ≤ 1048576) (hs : Pit w a bs) :
    Calls Tryd.prog 23 #[.slice a bs.length c, .int .i64 s] w fun e w' => e = .returned (.int .i64 (pitCloseF bs s)) ∧ ∃ q, w' = w.drewN q := by
  cases hv : setOk bs s
  · go_enter Tryd.func23, Tryd.ntmps23
    go_wp2_with (go_at_call 72; refine (l6Set_any _ _ _ _ _ hl hs).mono ?_; rintro e w' ⟨rfl, hb0⟩)
    go_ret
    exact ⟨by simp [pitCloseF, hv], hb0⟩
  obtain ⟨hp, m, rfl, hm⟩ := setOk_of hv
  have hl8 := pitOk_len hp
  have hm' : m < 256 := Nat.lt_of_lt_of_le hm (pow_le_of (k := 8) hl8)
  have HF : Hid (pitCloseF bs m = closeOf bs m) := by simp [Hid, pitCloseF, hv]
  clear hm
  go_enter Tryd.func23, Tryd.ntmps23
  go_wp2_with (go_at_call 72; refine (l6Set_any _ _ _ _ _ hl hs).mono ?_; rintro e w1 ⟨rfl, q0, rfl⟩)
  go_loopw [1, 5] (fun s i wr => ∃ (j m1 : Nat), j ≤ bs.length ∧ i = .int .i64 ((j : Int) - 1) ∧ s = .int .i64 m1 ∧ m1 < 256 ∧ Hid (closeOf bs m = closeDown bs j m1) ∧ wr = w.drewN q0) (fun _ i _ => (intOf i + 1).toNat)
  case atStart => exact ⟨bs.length, m, by omega, rfl, rfl, hm', rfl, rfl⟩
  case round =>
    obtain ⟨j, m1, hj, rfl, rfl, hm1, HR, rfl⟩ := hrel
    cases j with
    | zero =>
      go_wp2
      go_ret
      exact ⟨by rw [HF.out, HR.out]; rfl, _, rfl⟩
    | succ i =>
      rw [show (((i + 1 : Nat) : Int) - 1) = (i : Int) from by omega]
      obtain ⟨b, off, A, C, rfl, hbw, h1, h2, h3, h4, h5, h6⟩ := Pit.at hs (k := i) (by omega)
      have hneed := fun j => pitOk_need hp (i := i) (j := j) (by omega)
      have HN := Lib.hid hneed
      clear hs hneed
      go_wp2_with fail
      go_loopw [1, 6] (fun s ii wi => ∃ (j m2 : Nat), j ≤ (nth bs i).needs.length ∧ ii = .int .i64 j ∧ s = .int .i64 m2 ∧ m2 < 256 ∧ m2.testBit i = m1.testBit i ∧ Hid (closeStep bs i m1 = if m1.testBit i then orNeeds m2 ((nth bs i).needs.drop j) else m2) ∧ wi = w.drewN q0) (fun _ ii _ => (nth bs i).needs.length - (intOf ii).toNat)
      case atStart => exact ⟨0, m1, by omega, rfl, rfl, hm1, rfl, rfl, rfl⟩
      case round =>
        obtain ⟨j, m2, hj2, rfl, rfl, hm2, hbitm, HO, rfl⟩ := hrel
        have HB := Lib.hid hbitm
        clear hbitm
        by_cases hlt : j < (nth bs i).needs.length
        · obtain ⟨b', off', rfl, hb', hc⟩ := Ints.at h6 hlt
          obtain ⟨y, hy, hyi⟩ := HN.out j hlt
          have c1 := hc j hlt
          rw [hy] at c1
          have HY := Lib.hid hy
          have hd := drop_nth hlt
          have HD := Lib.hid hd
          clear hd hy hc
          have hbit := shr_tmod m2 i
          cases hq : m2.testBit i
          · rw [bitZ_false hq] at hbit
            have hq1 : m1.testBit i = false := by rw [← HB.out]; exact hq
            go_wp2
            go_roundw
            case rel => exact ⟨i, m2, by omega, rfl, rfl, hm2, by show _ = _; rw [HR.out]; simp only [closeDown]; rw [HO.out, hq1]; rfl, by trivial⟩
            case measure => simp [intOf] <;> omega
          · rw [bitZ_true hq] at hbit
            have hq1 : m1.testBit i = true := by rw [← HB.out]; exact hq
            have hbit2 := shr_tmod m2 y
            have hsh := wrap_pow (n := y) (by omega)
            have HPi := Lib.hid (nat_pow_int y)
            cases hq2 : m2.testBit y
            · rw [bitZ_false hq2] at hbit2
              have hor := add_or_small m2 hm2 y (by omega) hq2
              have hor2 := or_lt (m := m2) (k := y) hm2 (by omega)
              have hsum : ((m2 : Int) + 2 ^ y) = ((m2 ||| 2 ^ y : Nat) : Int) := by rw [← hor, nat_pow_int]; simp
              have hpo : (0 : Int) ≤ 2 ^ y ∧ (2 : Int) ^ y ≤ 256 := by rw [nat_pow_int]; have := pow_le_of (n := y) (k := 8) (by omega); exact ⟨Int.natCast_nonneg _, by omega⟩
              have HOR := Lib.hid hor
              have HS := Lib.hid hsum
              obtain ⟨hpo1, hpo2⟩ := hpo
              clear hor hsum
              go_wp2
              go_roundw
              case rel => exact ⟨j + 1, m2 ||| 2 ^ y, by omega, by go_num, by rw [HS.out], hor2, by rw [Nat.testBit_or, hq, hq1]; rfl, by show _ = _; rw [HO.out, hq1, if_pos rfl, if_pos rfl, HD.out]; simp [orNeeds, HY.out], by trivial⟩
              case measure => simp [intOf] <;> omega
            · rw [bitZ_true hq2] at hbit2
              go_wp2
              go_roundw
              case rel =>
                refine ⟨j + 1, m2, by omega, by go_num, rfl, hm2, by rw [hq, hq1], ?_, by trivial⟩
                show _ = _
                have e : m2 ||| 2 ^ y = m2 := by
                  refine Nat.eq_of_testBit_eq fun z => ?_
                  rw [Nat.testBit_or, Nat.testBit_two_pow]
                  by_cases e : y = z
                  · subst e; rw [hq2]; rfl
                  · simp [e]
                rw [HO.out, hq1, if_pos rfl, if_pos rfl, HD.out]; simp [orNeeds, HY.out, e]
              case measure => simp [intOf] <;> omega
        · have hfin : closeStep bs i m1 = m2 := by rw [HO.out, List.drop_eq_nil_of_le (by omega)]; simp [orNeeds]
          have HFI := Lib.hid hfin
          clear hfin
          go_wp2
          go_roundw
          case rel => exact ⟨i, m2, by omega, rfl, rfl, hm2, by show _ = _; rw [HR.out]; simp only [closeDown]; rw [HFI.out], by trivial⟩
          case measure => simp [intOf] <;> omega

theorem OwnZ.cap {w : World} {B n c : Nat} {a : Option Addr} {xs : List Int} (h : OwnZ w B (.slice a n c) xs) : c ≤ 9223372036854775807 := by
  rcases h.2 with ⟨e, hn⟩ | ⟨g, cap, cur, e, hBg, hg, hn, hc, hs, ht⟩
  · injection e with e1 e2 e3; omega
  · injection e with e1 e2 e3; subst e3; exact hc
theorem OwnZ.far {w : World} {B n c b o : Nat} {xs : List Int} (h : OwnZ w B (.slice (some ⟨b, o, none⟩) n c) xs) : B ≤ b := by
  rcases h.2 with ⟨e, hn⟩ | ⟨g, cap, cur, e, hBg, hg, hn, hc, hs, ht⟩
  · injection e with e1; cases e1
  · injection e with e1 e2 e3; cases e1; exact hBg

/-- what the making of a full pit leaves -/
def FullOut (bs : List Blk) (w : World) (e : Ending) (w' : World) : Prop :=
  ∃ g C, e = .returned (.slice (some ⟨g, 0, none⟩) (fullF bs).length C) ∧ (fullF bs).length ≤ C ∧ Pit w' (some ⟨g, 0, none⟩) (fullF bs) ∧ Below w.heap.size w w'

set_option maxRecDepth 100000 in
set_option maxHeartbeats 1000000 in
theorem sFull_any (a : Option Addr) (c : Nat) (bs : List Blk) (w : World) (hl : bs.length ≤ 1048576) (hs : Pit w a bs) :
    Calls Tryd.prog 39 #[.slice a bs.length c] w (FullOut bs w) := by
  obtain ⟨B, hB⟩ : ∃ B, w.heap.size = B := ⟨_, rfl⟩
  go_enter Tryd.func39, Tryd.ntmps39
  go_wp2_with fail
  obtain ⟨W0, hW0⟩ : ∃ W0, W0 = w.alloc (.cells #[] 28) := ⟨_, rfl⟩
  have b0 : Below B w W0 := by rw [hW0]; exact (Below.refl _ _).alloc (Nat.le_of_eq hB.symm) _
  have z0 : B < W0.heap.size := by rw [hW0]; simp; omega
  have ho : OwnB W0 B (.slice (some ⟨B, 0, none⟩) 0 0) [] := by rw [hW0, ← hB]; exact OwnB.lit w _ (Nat.le_refl _)
  rw [← hW0]
  clear hW0
  cases hp : pitOk bs
  · have HE : Hid (fullF bs = []) := by show _ = _; simp [fullF, hp]
    go_loopw [3, 4] (fun v i wr => i = .int .i64 0 ∧ v = .slice (some ⟨B, 0, none⟩) 0 0 ∧ wr = W0) (fun _ i _ => 0 * (intOf i).toNat)
    case atStart => exact ⟨rfl, rfl, rfl⟩
    case round =>
      obtain ⟨rfl, rfl, rfl⟩ := hrel
      by_cases h0 : 0 < bs.length
      · go_wp2_with (go_at_call 19; refine (spitValid_any _ _ _ _ hl (hs.below (hB ▸ b0))).mono ?_; rintro e w' ⟨rfl, q, rfl⟩)
        go_ret
        exact ⟨B, 0, by rw [HE.out]; rfl, by rw [HE.out]; simp, by rw [HE.out]; exact .inl rfl, hB ▸ below_drewN b0 q⟩
      · go_wp2
        go_ret
        exact ⟨B, 0, by rw [HE.out]; rfl, by rw [HE.out]; simp, by rw [HE.out]; exact .inl rfl, hB ▸ b0⟩
  have hl8 := pitOk_len hp
  have HE : Hid (fullF bs = fullN bs bs.length) := by show _ = _; simp [fullF, hp]
  go_loopw [3, 4] (fun v i wr => ∃ (k : Nat) (ps : List PB), k ≤ bs.length ∧ i = .int .i64 k ∧ v ≠ .slice none 0 0 ∧ OwnB wr B v ps ∧ Hid (ps.map PB.blk = fullN bs k) ∧ B ≤ wr.heap.size ∧ Below B w wr) (fun _ i _ => bs.length - (intOf i).toNat)
  case atStart => exact ⟨0, [], by omega, rfl, by simp, ho, rfl, by omega, b0⟩
  case round =>
    obtain ⟨k, ps, hk, rfl, hnv, ho, HM, hzB, hb⟩ := hrel
    clear b0 z0
    have hpl : ps.length = k := by have := congrArg List.length HM.out; simpa [fullN_len] using this
    have HPL := Lib.hid hpl
    clear hpl
    have hps := hs.below (hB ▸ hb)
    obtain ⟨g, c1, rfl, hgc, hBg, hgw, _⟩ := ho.form hnv
    by_cases hlt : k < bs.length
    · have hplk : ps.length ≤ 8 := by have := HPL.out; omega
      obtain ⟨b, off, A, C, rfl, hbw, h1, h2, h3, h4, h5, h6⟩ := Pit.at hps hlt
      have HC := Lib.hid (close_pow hp hlt)
      have hclt : closeOf bs (2 ^ k) < 256 := Nat.lt_of_lt_of_le (closeOf_lt hp (two_pow_lt hlt)) (pow_le_of (k := 8) hl8)
      have hsh := wrap_pow (n := k) (by omega)
      clear hs h2 h3 h4 h5 h6
      go_wp2_with (go_at_call 19; refine (spitValid_any _ _ _ _ hl hps).mono ?_; rintro e w1 ⟨rfl, q1, rfl⟩)
      refine (sClose_any _ _ _ _ _ hl (hps.drewN q1)).mono ?_
      rintro e w2 ⟨rfl, q2, rfl⟩
      rw [HC.out]
      obtain ⟨W3, hW3⟩ : ∃ W3, W3 = (wr.drewN q1).drewN q2 := ⟨_, rfl⟩
      rw [← hW3]
      have bW : Below wr.heap.size wr W3 := by rw [hW3]; exact below_drewN (below_drewN (Below.refl _ _) _) _
      replace ho := ho.below bW
      replace h1 := (bW.cell (p := ⟨b, off + k * 2, none⟩) hbw).trans h1
      replace hb := hb.trans (bW.mono hzB)
      have hzW := bW.size
      replace hgw : g < W3.heap.size := by omega
      replace hzB : B ≤ W3.heap.size := by omega
      clear hW3 bW hps hsh hzW
      have HFB : Hid (fullB bs k = ⟨(nth bs k).worth, bitsBelow (closeOf bs (2 ^ k)) k⟩) := rfl
      clear HC
      generalize closeOf bs (2 ^ k) = m at hclt HFB
      go_wp2_with fail
      obtain ⟨X, hX⟩ : ∃ X, W3.heap.size = X := ⟨_, rfl⟩
      rw [hX] at hgw hzB ⊢
      obtain ⟨W4, hW4⟩ : ∃ W4, W4 = W3.alloc (.cells #[.int .i64 (nth bs k).worth, .slice none 0 0] 28) := ⟨_, rfl⟩
      have b4 : Below X W3 W4 := by rw [hW4, ← hX]; exact (Below.refl _ _).alloc (Nat.le_refl _) _
      have d1 : W4.cell? ⟨X, 0, none⟩ = some (.int .i64 (nth bs k).worth) := by rw [hW4, ← hX]; simp
      have d2 : W4.cell? ⟨X, 1, none⟩ = some (.slice none 0 0) := by rw [hW4, ← hX]; simp
      have d3 : W4.frozen? ⟨X, 1, none⟩ = false := by rw [hW4, ← hX]; simp
      have z4 : X < W4.heap.size := by rw [hW4]; simp; omega
      rw [← hW4]
      clear hW4 h1
      go_loopw [7] (fun jj wi => ∃ (j : Nat) (vn : Value), j ≤ k ∧ jj = .int .i64 j ∧ wi.cell? ⟨X, 0, none⟩ = some (.int .i64 (nth bs k).worth) ∧ wi.cell? ⟨X, 1, none⟩ = some vn ∧ wi.frozen? ⟨X, 1, none⟩ = false ∧
        OwnZ wi (X + 1) vn (bitsBelow m j) ∧ X < wi.heap.size ∧ Below X W3 wi) (fun jj _ => k - (intOf jj).toNat)
      case atStart => exact ⟨0, _, by omega, rfl, d1, d2, d3, OwnZ.nil _ _, z4, b4⟩
      case round =>
        clear d1 d2 d3 z4 b4
        obtain ⟨j, vn, hj, rfl, d1, d2, d3, hrow, z4, b4⟩ := hrel
        obtain ⟨an, cn, rfl, hcn, hin⟩ := hrow.ints
        have hbl := bitsBelow_len m j
        by_cases hlt2 : j < k
        · have hbit := shr_tmod m j
          cases hq : m.testBit j
          · rw [bitZ_false hq] at hbit
            go_wp2
            go_roundw
            case rel => exact ⟨j + 1, _, by omega, by go_num, d1, d2, d3, by rw [bitsBelow_no hq]; exact hrow, z4, b4⟩
            case measure => simp [intOf] <;> omega
          · rw [bitZ_true hq] at hbit
            obtain ⟨N, hN⟩ : ∃ N, bitsBelow m j = N := ⟨_, rfl⟩
            rw [hN] at hrow d2 hcn hbl hin
            have HN := Lib.hid hN
            clear hN
            go_wp2_with (at_builtin; refine appInt _ _ rfl rfl (X + 1) _ N j _ _ rfl (World.ownsRow.alloc hrow _) rfl (one_cell _ _ _ _ rfl) (by omega) (by simp; omega) ?_; intro v' w6 hrow6 b6; obtain ⟨an', cn', rfl, hcn', _⟩ := ints_of_owns hrow6; have b6' : Below (X + 1) wr w6 := ((Below.refl _ _).alloc z4 _).trans b6; have f3 : w6.frozen? ⟨X, 1, none⟩ = false := (b6'.frozen (p := ⟨X, 1, none⟩) (Nat.lt_succ_self X)).trans d3; have f2 : w6.cell? ⟨X, 1, none⟩ = some (.slice an N.length cn) := (b6'.cell (p := ⟨X, 1, none⟩) (Nat.lt_succ_self X)).trans d2)
            have f1 : w6.cell? ⟨X, 0, none⟩ = some (.int .i64 (nth bs k).worth) := by rw [b6'.cell (p := ⟨X, 0, none⟩) (Nat.lt_succ_self X)]; exact d1
            have b7 : Below X wr (w6.setCell ⟨X, 1, none⟩ (.slice an' (N.length + 1) cn')) := (b6'.mono (Nat.le_succ X)).setCell (p := ⟨X, 1, none⟩) (Nat.le_refl X) _
            go_roundw
            case rel =>
              refine ⟨j + 1, .slice an' (N.length + 1) cn', by omega, by go_num, ?_, ?_, ?_, ?_, Nat.lt_of_lt_of_le z4 b7.size, b4.trans b7⟩
              · rw [World.cell?_setCell_other _ _ _ _ (by simp)]; exact f1
              · exact World.cell?_setCell_same _ _ _ f2
              · rw [World.frozen?_setCell]; exact f3
              · rw [bitsBelow_yes hq, HN.out]
                have hl7 : (N ++ [(j : Int)]).length = N.length + 1 := by simp
                unfold OwnZ
                rw [hl7] at hrow6 ⊢
                exact ownsRow_setCell_below hrow6 (Nat.lt_succ_self X) _
            case measure => simp [intOf] <;> omega
        · obtain rfl : j = k := by omega
          have okx : PB.Ok wr ⟨(nth bs j).worth, bitsBelow m j, an, cn⟩ := ⟨by show (bitsBelow m j).length ≤ _; omega, hcn, hrow.cap, hin⟩
          have ho2 := ho.below (hX ▸ b4)
          have hne : ∀ y ∈ [(⟨(nth bs j).worth, bitsBelow m j, an, cn⟩ : PB)], ∀ b o, 0 < y.needs.length → y.a = some ⟨b, o, none⟩ → (Value.slice (some ⟨g, 0, none⟩) ps.length c1).ownBlock ≠ some b := by
            intro y hy b o _ e he
            obtain rfl := List.mem_singleton.1 hy
            have e' : an = some ⟨b, o, none⟩ := e
            have he' : g = b := Option.some.inj he
            have := (e' ▸ hrow).far
            omega
          obtain ⟨N, hN⟩ : ∃ N, bitsBelow m j = N := ⟨_, rfl⟩
          rw [hN] at d2 okx hne
          rw [hN] at HFB
          have hwz := b4.size
          rw [hX] at hwz
          have hwB : B ≤ wr.heap.size := by omega
          clear hrow hin hcn hbl hN
          go_wp2_with (at_builtin; refine appBlks (.tmp 45) (.tmp 47) (by rfl) rfl B (.slice (some ⟨g, 0, none⟩) ps.length c1) ps [⟨(nth bs j).worth, N, an, cn⟩] wr.heap.size 0 1 1 rfl (ho2.alloc _) rfl rfl (RdB.one_at _ ⟨(nth bs j).worth, N, an, cn⟩ _ okx rfl) hne (by first | omega | (simp; done) | (simp; omega)) (by first | omega | (simp; done) | (simp; omega)) (by first | omega | (simp; done) | (simp; omega)) ?_; intro v' w7 ho7 b7 hv7 _)
          have b8 : Below B wr w7 := ((Below.refl _ _).alloc hwB _).trans b7
          go_roundw
          case rel => exact ⟨j + 1, ps ++ [⟨(nth bs j).worth, N, an, cn⟩], by omega, by go_num, hv7 (by simp), ho7, by show _ = _; rw [List.map_append, HM.out, fullN_succ, HFB.out]; rfl, Nat.le_trans hwB b8.size, (hb.trans (b4.mono hzB)).trans b8⟩
          case measure => simp [intOf] <;> omega
    · have hkk : k = bs.length := by omega
      obtain ⟨g', c1', e1, hc1, hp1⟩ := ho.out (by simp) (HM.out.trans (by rw [hkk, ← HE.out]))
      injection e1 with e2 e3 e4
      cases e2
      subst e4
      have HLN := Lib.hid e3
      clear e3 HPL
      go_wp2
      go_ret
      exact ⟨g, c1, by first | rfl | (rw [HLN.out]; rfl), hc1, hp1, hB ▸ hb⟩
end Go.Proofs.YtnjpifaphmeepaaDoor
