/- Walks over the reference: spec.l6Way. -/
import Derived.Test.YtnjpifaphmeepaaDoorS5
namespace Go.Proofs.YtnjpifaphmeepaaDoor
open Go Go.RowKit

def castL (l : List Nat) : List Int := l.map fun i : Nat => (i : Int)
theorem castL_len (l : List Nat) : (castL l).length = l.length := by simp [castL]
theorem castL_app (l r : List Nat) : castL (l ++ r) = castL l ++ castL r := by simp [castL]
theorem castL_snoc (l : List Nat) (x : Nat) : castL (l ++ [x]) = castL l ++ [(x : Int)] := by simp [castL]
theorem hasZ_cast (l : List Nat) (x : Nat) : hasZ (castL l) (x : Int) = decide (x ∈ l) := by
  unfold hasZ castL
  rw [decide_eq_decide]
  simp only [List.mem_map]
  constructor
  · rintro ⟨y, hy, e⟩; obtain rfl : y = x := by omega
    exact hy
  · intro h; exact ⟨x, h, rfl⟩
theorem nth_cast_last (pre : List Nat) (a : Nat) : nth (castL (pre ++ [a])) ((castL (pre ++ [a])).length - 1) = (a : Int) := by
  rw [castL_len, castL_app]
  have : (pre ++ [a]).length - 1 = (castL pre).length := by simp [castL_len]
  rw [this]; exact nth_append_len (castL pre) (a : Int) []

def WayOut (xs : List Nat) (w : World) (e : Ending) (w' : World) : Prop :=
  ∃ g C, e = .returned (.slice (some ⟨g, 0, none⟩) xs.length C) ∧ Ints w' (some ⟨g, 0, none⟩) (castL xs) ∧ Below w.heap.size w w' ∧ w.heap.size ≤ g

abbrev Mof (rows : List (List Int)) (i j : Nat) : Int := nth (nth rows i) j

theorem pay_range {bs : List Blk} {M : Nat → Nat → Int} (hp : pitOk bs = true) (hi : PayInv bs M) {k j : Nat} (hk : k < bs.length) (hj : j < bs.length) : 0 ≤ M k j ∧ M k j ≤ 20 := by
  have h1 := hi.nonneg k j hk hj
  have h2 := hi.row k hk
  have h3 := sumN_term (f := M k) (n := bs.length) (fun j hj => hi.nonneg k j hk hj) j hj
  have h4 := (pos_range (pitOk_worth hp hk).2).2
  exact ⟨h1, by unfold wth at h2; omega⟩

set_option maxRecDepth 100000 in
set_option maxHeartbeats 4000000 in
theorem l6Way_any (bs : List Blk) (rows : List (List Int)) (costs : List Int) (a1 aP aC : Option Addr) (c1 cP cC : Nat) (hp : pitOk bs = true) (hi : PayInv bs (Mof rows)) (hrl : rows.length = bs.length) (hrr : ∀ k, k < bs.length → (nth rows k).length = bs.length)
    (hcl : costs.length = bs.length) (hcv : ∀ j, j < bs.length → nth costs j = cost (wth bs j)) :
    ∀ (f : Nat) (pre : List Nat) (at_ : Nat) (Z : List Int) (b o c : Nat) (w : World), bs.length < f + (pre.length + 1) → (pre ++ [at_]).Nodup → (∀ x ∈ pre ++ [at_], x < bs.length) → Z = castL (pre ++ [at_]) →
      Pit w a1 bs → Tab w aP rows → Ints w aC costs → Ints w (some ⟨b, o, none⟩) Z →
      Calls Tryd.prog 81 #[.slice a1 bs.length c1, .slice aP bs.length cP, .slice aC bs.length cC, .slice (some ⟨b, o, none⟩) Z.length c] w (WayOut (wayR bs (Mof rows) f (pre ++ [at_])) w) := by
  intro f
  induction f with
  | zero =>
    intro pre at_ Z b o c w hf hn hlt
    have := nodup_len hn hlt
    simp at this; omega
  | succ f ih =>
    intro pre at_ Z b o c w hf hn hlt hZ hs ht hC hW
    have hl8 := pitOk_len hp
    have hat : at_ < bs.length := hlt at_ (by simp)
    have hlen : Z.length = pre.length + 1 := by rw [hZ]; simp [castL_len]
    have hplen : pre.length + 1 ≤ bs.length := by have := nodup_len hn hlt; simpa using this
    have HZ : Hid (Z = castL (pre ++ [at_])) := hZ
    have hlast : nth Z (Z.length - 1) = (at_ : Int) := by rw [hZ]; exact nth_cast_last _ _
    have hZ1 : 1 ≤ Z.length := by omega
    have hZ8 : Z.length ≤ 8 := by omega
    have HL : Hid (Z.length = pre.length + 1) := hlen
    have HN := Lib.hid hn
    have HLT := Lib.hid hlt
    have HRL := Lib.hid hrl
    have HRR := Lib.hid hrr
    have HCL := Lib.hid hcl
    have HCV := Lib.hid hcv
    have HIH := Lib.hid ih
    obtain ⟨R, hR⟩ : ∃ R, wayR bs (Mof rows) (f + 1) (pre ++ [at_]) = R := ⟨_, rfl⟩
    have HR0 : Hid (R = wayJ bs (Mof rows) (wayR bs (Mof rows) f) (pre ++ [at_]) at_ bs.length 0) := by
      show _ = _; rw [← hR]; simp [wayR]
    rw [hR]
    obtain ⟨bw, ow, ew, hbw, hcw⟩ := Ints.at hW (k := Z.length - 1) (by omega)
    cases ew
    have w1 := hcw (Z.length - 1) (by omega)
    rw [hlast] at w1
    clear hR hZ hn hlt hrl hrr hcl hcv ih hlast hlen hcw
    go_enter Tryd.func81, Tryd.ntmps81
    go_wp2_with fail
    clear w1
    go_loopw [10] (fun j wr => ∃ (k : Nat), k ≤ bs.length ∧ j = .int .i64 k ∧ Hid (R = wayJ bs (Mof rows) (wayR bs (Mof rows) f) (pre ++ [at_]) at_ (bs.length - k) k) ∧ Below w.heap.size w wr) (fun j _ => bs.length - (intOf j).toNat)
    case atStart => exact ⟨0, by omega, rfl, HR0, Below.refl _ _⟩
    case round =>
      obtain ⟨j, hj, rfl, HR, hb⟩ := hrel
      by_cases hlt : j < bs.length
      · have hzb := hb.size
        have hWw := hW.below hb
        obtain ⟨b', off', A', C', rfl, hbw', e1, e2, e3, e4, e5, e6⟩ := Pit.at (hs.below hb) hat
        obtain ⟨b2, off2, A2, C2, e0, hbw2, f1, f2, f3, f4, f5, f6⟩ := Pit.at (hs.below hb) hlt
        cases e0
        have hstep : wayJ bs (Mof rows) (wayR bs (Mof rows) f) (pre ++ [at_]) at_ (bs.length - j) j = wayJ bs (Mof rows) (wayR bs (Mof rows) f) (pre ++ [at_]) at_ (bs.length - (j + 1) + 1) j := by rw [show bs.length - (j + 1) + 1 = bs.length - j by omega]
        have HS := Lib.hid hstep
        clear hstep f2 f3 f4 f5 f6 e1
        have hhas := hasZ_cast (pre ++ [at_]) j
        rw [← HZ.out] at hhas
        cases hn1 : hasZ (nth bs at_).needs j
        · have hno : ¬ ((needsB bs at_ j = true ∧ j ∉ pre ++ [at_]) ∧ wth bs j < 0) := by simp [needsB, hn1]
          have HNO := Lib.hid hno
          clear hno hhas
          go_wp2_with (go_at_call 76; refine (l1Has_any A' _ _ _ _ e3 e6).mono ?_; rintro e w' ⟨rfl, rfl⟩)
          go_roundw
          case rel => exact ⟨j + 1, by omega, by go_num, by show _ = _; rw [HR.out, HS.out]; simp only [wayJ]; rw [if_neg HNO.out], hb⟩
          case measure => simp [intOf] <;> omega
        cases hn2 : hasZ Z j
        case true =>
          have hno : ¬ ((needsB bs at_ j = true ∧ j ∉ pre ++ [at_]) ∧ wth bs j < 0) := by
            rw [hn2] at hhas; have := of_decide_eq_true hhas.symm; exact fun h => h.1.2 this
          have HNO := Lib.hid hno
          clear hno hhas
          go_wp2_with fail
          refine (l1Has_any A' _ _ _ _ e3 e6).mono ?_
          rintro e w' ⟨rfl, rfl⟩
          go_wp2_with fail
          refine (l1Has_any _ Z _ _ _ (by omega) hWw).mono ?_
          rintro e w' ⟨rfl, rfl⟩
          go_wp2_with fail
          go_roundw
          case rel => exact ⟨j + 1, by omega, by go_num, by show _ = _; rw [HR.out, HS.out]; simp only [wayJ]; rw [if_neg HNO.out], hb⟩
          case measure => simp [intOf] <;> omega
        by_cases hw0 : 0 ≤ (nth bs j).worth
        · have hno : ¬ ((needsB bs at_ j = true ∧ j ∉ pre ++ [at_]) ∧ wth bs j < 0) := fun h => by have := h.2; unfold wth at this; omega
          have HNO := Lib.hid hno
          clear hno hhas
          go_wp2_with fail
          refine (l1Has_any A' _ _ _ _ e3 e6).mono ?_
          rintro e w' ⟨rfl, rfl⟩
          go_wp2_with fail
          refine (l1Has_any _ Z _ _ _ (by omega) hWw).mono ?_
          rintro e w' ⟨rfl, rfl⟩
          go_wp2_with fail
          go_roundw
          case rel => exact ⟨j + 1, by omega, by go_num, by show _ = _; rw [HR.out, HS.out]; simp only [wayJ]; rw [if_neg HNO.out], hb⟩
          case measure => simp [intOf] <;> omega
        have hjn : j ∉ pre ++ [at_] := by rw [hn2] at hhas; exact of_decide_eq_false hhas.symm
        have hyes : (needsB bs at_ j = true ∧ j ∉ pre ++ [at_]) ∧ wth bs j < 0 := ⟨⟨hn1, hjn⟩, by unfold wth; omega⟩
        have HY := Lib.hid hyes
        have HJN := Lib.hid hjn
        clear hyes hjn hhas
        go_wp2_with fail
        refine (l1Has_any A' _ _ _ _ e3 e6).mono ?_
        rintro e w' ⟨rfl, rfl⟩
        go_wp2_with fail
        refine (l1Has_any _ Z _ _ _ (by omega) hWw).mono ?_
        rintro e w' ⟨rfl, rfl⟩
        go_wp2_with fail
        clear e2 e3 e4 e5 e6 f1 hn1 hn2
        go_loopw [11, 12] (fun got kk wi => ∃ (k : Nat) (T : Int), k ≤ bs.length ∧ kk = .int .i64 k ∧ got = .int .i64 T ∧ 0 ≤ T ∧ T ≤ 20 * k ∧ Hid (T = sumN (fun k => Mof rows k j) k) ∧ wi = wr) (fun _ kk _ => bs.length - (intOf kk).toNat)
        case atStart => exact ⟨0, 0, by omega, rfl, rfl, by omega, by omega, rfl, rfl⟩
        case round =>
          obtain ⟨k, T, hk, rfl, rfl, hT0, hT1, HT, rfl⟩ := hrel
          by_cases hlt2 : k < bs.length
          · obtain ⟨b3, off3, A3, C3, rfl, hbw3, d1, d2, d3, d4, d5⟩ := Tab.at (ht.below hb) (k := k) (by rw [HRL.out]; exact hlt2)
            obtain ⟨b4, off4, rfl, hbw4, hc⟩ := Ints.at d5 (k := j) (by rw [HRR.out k hlt2]; exact hlt)
            have c1 := hc j (by rw [HRR.out k hlt2]; exact hlt)
            obtain ⟨r1, r2⟩ := pay_range hp hi hlt2 hlt
            have HX : Hid (Mof rows k j = nth (nth rows k) j) := rfl
            have hrk : j < (nth rows k).length := by rw [HRR.out k hlt2]; exact hlt
            generalize nth (nth rows k) j = x at c1 HX
            rw [HX.out] at r1 r2
            clear hc d5
            go_wp2
            go_roundw
            case rel => exact ⟨k + 1, T + x, by omega, by go_num, rfl, by omega, by omega, by show _ = _; rw [HT.out]; simp only [sumN]; rw [HX.out], by trivial⟩
            case measure => simp [intOf] <;> omega
          · have hkk : k = bs.length := by omega
            have HCS : Hid (T = colSum bs (Mof rows) j) := by show _ = _; rw [HT.out, hkk]; rfl
            clear HT hkk
            obtain ⟨Z2, hZ2⟩ : ∃ Z2, Z2 = Z ++ [(j : Int)] := ⟨_, rfl⟩
            have HZ2 := Lib.hid hZ2
            have hz2l : Z2.length ≤ 9 := by rw [hZ2]; simp; omega
            have HZ2c : Hid (Z2 = castL ((pre ++ [at_]) ++ [j])) := by show _ = _; rw [hZ2, HZ.out, castL_snoc _ j]
            clear hZ2
            obtain ⟨bc, oc, rfl, hbc, hcc⟩ := Ints.at hC (k := j) (by rw [HCL.out]; exact hlt)
            have cw := hcc j (by rw [HCL.out]; exact hlt)
            have hjc : j < costs.length := by rw [HCL.out]; exact hlt
            obtain ⟨K, hK⟩ : ∃ K, nth costs j = K := ⟨_, rfl⟩
            rw [hK] at cw
            have HK : Hid (K = cost (wth bs j)) := by show _ = _; rw [← hK, HCV.out j hlt]
            have HCl : Hid (∀ k, k < costs.length → w.cell? ⟨bc, oc + k, none⟩ = some (.int .i64 (nth costs k))) := hcc
            clear hcc hK
            by_cases hTK : T < K
            · go_wp2_with (first
                | (at_builtin; refine appInts (.tmp 64) (.tmp 65) (by rfl) rfl wr.heap.size (.slice (some ⟨wr.heap.size, 0, none⟩) 0 0) [] Z b o c rfl (OwnZ.lit wr _ (Nat.le_refl _)) rfl (hWw.alloc _) (by first | omega | (simp; done) | (simp; omega)) (by first | omega | (simp; done) | (simp; omega)) (by first | omega | (simp; done) | (simp; omega)) ?_; intro v' w4 ho4 b4 _ hn4 _; rw [List.nil_append] at ho4; obtain ⟨g4, C4, rfl, _, hg4, _⟩ := ho4.form (fun e => by have := (hn4.1 e).1; cases this); replace b4 := ((Below.refl _ _).alloc (Nat.le_refl _) _).trans b4; have z4 := b4.size; clear hn4)
                | (at_builtin; refine appInts (.tmp 66) (.tmp 68) (by rfl) rfl wr.heap.size (.slice (some ⟨g4, 0, none⟩) Z.length C4) Z [(j : Int)] w4.heap.size 0 1 rfl (ho4.alloc _) rfl (Ints.one_at w4 j _ rfl) (by first | omega | (simp; done) | (simp; omega)) (by first | omega | (simp; done) | (simp; omega)) (by first | omega | (simp; done) | (simp; omega)) ?_; intro v' w5 ho5 b5 _ hn5 _; rw [← HZ2.out] at ho5; obtain ⟨g5, C5, rfl, _, hg5, hi5⟩ := ho5.form (fun e => by have := (hn5.1 e).1; cases this); replace b5 := b4.trans (((Below.refl _ _).alloc z4 _).trans b5); have b5t := hb.trans (b5.mono hzb); have cc5 : w5.cell? ⟨bc, oc + j, none⟩ = some (.int .i64 K) := (b5t.cell (p := ⟨bc, oc + j, none⟩) hbc).trans cw; clear hn5))
              go_ret
              have hR : R = (pre ++ [at_]) ++ [j] := by
                rw [HR.out, HS.out]; simp only [wayJ]
                rw [if_pos HY.out, if_pos (by rw [← HCS.out, ← HK.out]; exact hTK)]
              have hlz : Z2.length = R.length := by rw [HZ2c.out, castL_len, hR]
              exact ⟨g5, C5, by rw [← hlz]; rfl, by rw [hR, ← HZ2c.out]; exact hi5, b5t, Nat.le_trans hzb hg5⟩
            · go_wp2_with (first
                | (at_builtin; refine appInts (.tmp 64) (.tmp 65) (by rfl) rfl wr.heap.size (.slice (some ⟨wr.heap.size, 0, none⟩) 0 0) [] Z b o c rfl (OwnZ.lit wr _ (Nat.le_refl _)) rfl (hWw.alloc _) (by first | omega | (simp; done) | (simp; omega)) (by first | omega | (simp; done) | (simp; omega)) (by first | omega | (simp; done) | (simp; omega)) ?_; intro v' w4 ho4 b4 _ hn4 _; rw [List.nil_append] at ho4; obtain ⟨g4, C4, rfl, _, hg4, _⟩ := ho4.form (fun e => by have := (hn4.1 e).1; cases this); replace b4 := ((Below.refl _ _).alloc (Nat.le_refl _) _).trans b4; have z4 := b4.size; clear hn4)
                | (at_builtin; refine appInts (.tmp 66) (.tmp 68) (by rfl) rfl wr.heap.size (.slice (some ⟨g4, 0, none⟩) Z.length C4) Z [(j : Int)] w4.heap.size 0 1 rfl (ho4.alloc _) rfl (Ints.one_at w4 j _ rfl) (by first | omega | (simp; done) | (simp; omega)) (by first | omega | (simp; done) | (simp; omega)) (by first | omega | (simp; done) | (simp; omega)) ?_; intro v' w5 ho5 b5 _ hn5 _; rw [← HZ2.out] at ho5; obtain ⟨g5, C5, rfl, _, hg5, hi5⟩ := ho5.form (fun e => by have := (hn5.1 e).1; cases this); replace b5 := b4.trans (((Below.refl _ _).alloc z4 _).trans b5); have b5t := hb.trans (b5.mono hzb); have cc5 : w5.cell? ⟨bc, oc + j, none⟩ = some (.int .i64 K) := (b5t.cell (p := ⟨bc, oc + j, none⟩) hbc).trans cw; clear hn5))
              have hstep2 : wayJ bs (Mof rows) (wayR bs (Mof rows) f) (pre ++ [at_]) at_ (bs.length - (j + 1) + 1) j = if (wayK (Mof rows) (wayR bs (Mof rows) f) (pre ++ [at_]) j bs.length 0).length > 0 then wayK (Mof rows) (wayR bs (Mof rows) f) (pre ++ [at_]) j bs.length 0 else wayJ bs (Mof rows) (wayR bs (Mof rows) f) (pre ++ [at_]) at_ (bs.length - (j + 1)) (j + 1) := by
                simp only [wayJ]
                rw [if_pos HY.out, if_neg (by rw [← HCS.out, ← HK.out]; omega)]
              have HS2 := Lib.hid hstep2
              have hz5 := b5t.size
              clear hstep2 cc5 cw ho5 ho4 b4 hTK HK HCS hWw hlt2 hT0 hT1
              go_loopw [14] (fun kk wi => ∃ (k : Nat), k ≤ bs.length ∧ kk = .int .i64 k ∧ Hid (wayK (Mof rows) (wayR bs (Mof rows) f) (pre ++ [at_]) j bs.length 0 = wayK (Mof rows) (wayR bs (Mof rows) f) (pre ++ [at_]) j (bs.length - k) k) ∧ Below w5.heap.size w5 wi) (fun kk _ => bs.length - (intOf kk).toNat)
              case atStart => exact ⟨0, by omega, rfl, rfl, Below.refl _ _⟩
              case round =>
                obtain ⟨k, hk, rfl, HK, hb5⟩ := hrel
                have hbt := b5t.trans (hb5.mono hz5)
                have hzt := hbt.size
                by_cases hlt3 : k < bs.length
                · have hkstep : wayK (Mof rows) (wayR bs (Mof rows) f) (pre ++ [at_]) j (bs.length - k) k = wayK (Mof rows) (wayR bs (Mof rows) f) (pre ++ [at_]) j (bs.length - (k + 1) + 1) k := by rw [show bs.length - (k + 1) + 1 = bs.length - k by omega]
                  have HKS := Lib.hid hkstep
                  clear hkstep
                  obtain ⟨b3, off3, A3, C3, rfl, hbw3, d1, d2, d3, d4, d5⟩ := Tab.at (ht.below hbt) (k := k) (by rw [HRL.out]; exact hlt3)
                  obtain ⟨b4', off4, rfl, hbw4, hc⟩ := Ints.at d5 (k := j) (by rw [HRR.out k hlt3]; exact hlt)
                  have x1 := hc j (by rw [HRR.out k hlt3]; exact hlt)
                  have HX : Hid (Mof rows k j = nth (nth rows k) j) := rfl
                  have hrk : j < (nth rows k).length := by rw [HRR.out k hlt3]; exact hlt
                  generalize nth (nth rows k) j = x at x1 HX
                  have hWk := hW.below hbt
                  clear hc d5 d2 d3 d4
                  have hhas := hasZ_cast (pre ++ [at_]) k
                  rw [← HZ.out] at hhas
                  by_cases hx0 : 0 < x
                  case neg =>
                    have hno : ¬ (0 < Mof rows k j ∧ k ∉ pre ++ [at_]) := fun h => hx0 (by rw [← HX.out]; exact h.1)
                    have HNO := Lib.hid hno
                    clear hno hhas
                    have hx1 : decide (0 < x) = false := by simpa using hx0
                    go_wp2
                    go_roundw
                    case rel => exact ⟨k + 1, by omega, by go_num, by show _ = _; rw [HK.out, HKS.out]; simp only [wayK]; rw [if_neg HNO.out], hb5⟩
                    case measure => simp [intOf] <;> omega
                  cases hn2 : hasZ Z k
                  case true =>
                    have hno : ¬ (0 < Mof rows k j ∧ k ∉ pre ++ [at_]) := by
                      rw [hn2] at hhas; have := of_decide_eq_true hhas.symm; exact fun h => h.2 this
                    have HNO := Lib.hid hno
                    clear hno hhas
                    go_wp2_with fail
                    refine (l1Has_any _ Z _ _ _ (by omega) hWk).mono ?_
                    rintro e w' ⟨rfl, rfl⟩
                    go_wp2_with fail
                    go_roundw
                    case rel => exact ⟨k + 1, by omega, by go_num, by show _ = _; rw [HK.out, HKS.out]; simp only [wayK]; rw [if_neg HNO.out], hb5⟩
                    case measure => simp [intOf] <;> omega
                  have hkn : k ∉ pre ++ [at_] := by rw [hn2] at hhas; exact of_decide_eq_false hhas.symm
                  have hyes : 0 < Mof rows k j ∧ k ∉ pre ++ [at_] := ⟨by rw [HX.out]; exact hx0, hkn⟩
                  have HYK := Lib.hid hyes
                  have hneed := hi.edge k j hlt3 hlt hyes.1
                  have hkj : k ≠ j := fun e => by have := need_lt hp hlt3 hneed.1; omega
                  have HND : Hid (((pre ++ [at_]) ++ [j] ++ [k]).Nodup) := by
                    show List.Nodup _
                    rw [List.nodup_append]
                    refine ⟨?_, by simp, fun y hy z hz => ?_⟩
                    · rw [List.nodup_append]
                      exact ⟨HN.out, by simp, fun y hy z hz => by simp at hz; subst hz; intro e; subst e; exact HJN.out hy⟩
                    · simp only [List.mem_singleton] at hz
                      subst hz
                      intro e; subst e
                      rcases List.mem_append.1 hy with hy | hy
                      · exact hkn hy
                      · simp at hy; exact hkj hy
                  have HLT2 : Hid (∀ y ∈ (pre ++ [at_]) ++ [j] ++ [k], y < bs.length) := by
                    intro y hy
                    rcases List.mem_append.1 hy with hy | hy
                    · rcases List.mem_append.1 hy with hy | hy
                      · exact HLT.out y hy
                      · simp at hy; omega
                    · simp at hy; omega
                  have hfu : bs.length < f + (((pre ++ [at_]) ++ [j]).length + 1) := by simp; omega
                  have HFU := Lib.hid hfu
                  obtain ⟨Z3, hZ3⟩ : ∃ Z3, Z3 = Z2 ++ [(k : Int)] := ⟨_, rfl⟩
                  have HZ3 := Lib.hid hZ3
                  have HZ3c : Hid (Z3 = castL ((pre ++ [at_]) ++ [j] ++ [k])) := by show _ = _; rw [hZ3, HZ2c.out, castL_snoc _ k]
                  have hi5k := hi5.below hb5
                  clear hyes hkn hhas hneed hkj hfu hZ3
                  go_wp2_with fail
                  refine (l1Has_any _ Z _ _ _ (by omega) hWk).mono ?_
                  rintro e w' ⟨rfl, rfl⟩
                  go_wp2_with (first
                    | (at_builtin; refine appInts (.tmp 100) (.tmp 101) (by rfl) rfl wr.heap.size (.slice (some ⟨wr.heap.size, 0, none⟩) 0 0) [] Z2 g5 0 C5 rfl (OwnZ.lit wr _ (Nat.le_refl _)) rfl (hi5k.alloc _) (by first | omega | (simp; done) | (simp; omega)) (by first | omega | (simp; done) | (simp; omega)) (by first | omega | (simp; done) | (simp; omega)) ?_; intro v' w6 ho6 b6 _ hn6 _; rw [List.nil_append] at ho6; obtain ⟨g6, C6, rfl, _, hg6, _⟩ := ho6.form (fun e => by have := (hn6.1 e).1; cases this); replace b6 := ((Below.refl _ _).alloc (Nat.le_refl _) _).trans b6; have z6 := b6.size; clear hn6)
                    | (at_builtin; refine appInts (.tmp 102) (.tmp 104) (by rfl) rfl wr.heap.size (.slice (some ⟨g6, 0, none⟩) Z2.length C6) Z2 [(k : Int)] w6.heap.size 0 1 rfl (ho6.alloc _) rfl (Ints.one_at w6 k _ rfl) (by first | omega | (simp; done) | (simp; omega)) (by first | omega | (simp; done) | (simp; omega)) (by first | omega | (simp; done) | (simp; omega)) ?_; intro v' w7 ho7 b7 _ hn7 _; rw [← HZ3.out] at ho7; obtain ⟨g7, C7, rfl, _, _, hi7⟩ := ho7.form (fun e => by have := (hn7.1 e).1; cases this); replace b7 := b6.trans (((Below.refl _ _).alloc z6 _).trans b7); clear hn7))
                  have b7t := hbt.trans (b7.mono hzt)
                  refine (HIH.out ((pre ++ [at_]) ++ [j]) k Z3 g7 0 C7 w7 HFU.out HND.out HLT2.out HZ3c.out (hs.below b7t) (ht.below b7t) (hC.below b7t) hi7).mono ?_
                  rintro e w8 ⟨g8, C8, rfl, hi8, b8, hg8⟩
                  have hg8 := Nat.le_trans b7t.size hg8
                  have b8t := b7t.trans (b8.mono b7t.size)
                  have b85 := hb5.trans ((b7.trans (b8.mono b7.size)).mono hb5.size)
                  have HRec : Hid (wayK (Mof rows) (wayR bs (Mof rows) f) (pre ++ [at_]) j bs.length 0 = if (wayR bs (Mof rows) f ((pre ++ [at_]) ++ [j] ++ [k])).length > 0 then wayR bs (Mof rows) f ((pre ++ [at_]) ++ [j] ++ [k]) else wayK (Mof rows) (wayR bs (Mof rows) f) (pre ++ [at_]) j (bs.length - (k + 1)) (k + 1)) := by
                    show _ = _
                    rw [HK.out, HKS.out]; simp only [wayK]; rw [if_pos HYK.out]
                  clear b7 b8 b7t ho6 ho7 hi7
                  generalize wayR bs (Mof rows) f ((pre ++ [at_]) ++ [j] ++ [k]) = X at hi8 HRec
                  by_cases hX0 : 0 < X.length
                  · go_wp2_with fail
                    go_ret
                    have hRX : R = X := by rw [HR.out, HS.out, HS2.out, HRec.out, if_pos hX0, if_pos hX0]
                    exact ⟨g8, C8, by rw [hRX]; rfl, by rw [hRX]; exact hi8, b8t, hg8⟩
                  · go_wp2_with fail
                    go_roundw
                    case rel => exact ⟨k + 1, by omega, by go_num, by show _ = _; rw [HRec.out, if_neg (by omega)], b85⟩
                    case measure => simp [intOf] <;> omega
                · have hkk : k = bs.length := by omega
                  have hz : wayK (Mof rows) (wayR bs (Mof rows) f) (pre ++ [at_]) j bs.length 0 = [] := by rw [HK.out, hkk, Nat.sub_self]; rfl
                  have HNX : Hid (R = wayJ bs (Mof rows) (wayR bs (Mof rows) f) (pre ++ [at_]) at_ (bs.length - (j + 1)) (j + 1)) := by
                    show _ = _; rw [HR.out, HS.out, HS2.out, hz]; rfl
                  clear hz hkk
                  go_wp2
                  go_roundw
                  case rel => exact ⟨j + 1, by omega, by go_num, HNX, hbt⟩
                  case measure => simp [intOf] <;> omega
      · have hR0 : R = [] := by rw [HR.out, show bs.length - j = 0 by omega]; rfl
        have HR00 := Lib.hid hR0
        clear hR0
        go_wp2
        go_ret
        exact ⟨wr.heap.size, 0, by rw [HR00.out]; rfl, by rw [HR00.out]; exact .inl rfl, hb.alloc hb.size _, hb.size⟩
end Go.Proofs.YtnjpifaphmeepaaDoor
