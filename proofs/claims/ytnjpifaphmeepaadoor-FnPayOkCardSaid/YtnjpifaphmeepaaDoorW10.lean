/- Walks: impl.PitFull, impl.PayMost. -/
import Derived.Test.YtnjpifaphmeepaaDoorW8
import Derived.Test.YtnjpifaphmeepaaDoorS5
import Derived.Test.YtnjpifaphmeepaaDoorPaySt
import Derived.Test.YtnjpifaphmeepaaDoorBRow
import Derived.Deep.RegionWith
import Derived.Lib.QuietBelow
namespace Go.Proofs.YtnjpifaphmeepaaDoor
open Go Go.RowKit Go.Sort

theorem bits_andNot_nat : ∀ a : Nat, a < 256 → ∀ k, k < 8 → bits .andNot .i64 (a : Int) ((2 : Int) ^ k) = ((a - (if a.testBit k then 2 ^ k else 0) : Nat) : Int) := by
  decide +kernel
theorem andNot_bit : ∀ a : Nat, a < 256 → ∀ k, k < 8 → ∀ i, i < 8 → (a - (if a.testBit k then 2 ^ k else 0)).testBit i = (a.testBit i && !decide (i = k)) := by
  decide +kernel

theorem wrapI_pow {k : Nat} (h : k ≤ 8) : IntKind.i64.wrap ((2 : Int) ^ k) = 2 ^ k := by
  have h1 : (2 : Nat) ^ k ≤ 2 ^ 8 := pow_le_of h
  have h2 : ((2 : Int) ^ k) = ((2 ^ k : Nat) : Int) := by simp
  rw [h2]
  generalize (2 : Nat) ^ k = p at *
  exact IntWalk.i64_in _ (by omega)
theorem grown_pit {f : FuncId} {args : Array Value} {w : World} {v : Value} {a : Option Addr} {bs : List Blk} (hp : Pit w a bs)
    (h : ∀ w, Pit w a bs → Calls Tryd.prog f args w fun e w' => e = .returned v ∧ Below w.heap.size w w') (d : Nat) (os : Array Obj) :
    Calls Tryd.prog f args (grow (redrawn w d) os) fun e w'' => e = .returned v ∧ ∃ p : Regrown, w'' = grow (redrawn w p.d) p.os :=
  Calls.regrown_of (h _ (hp.below (below_regrown w d os)))

set_option maxRecDepth 100000 in
set_option maxHeartbeats 2000000 in
theorem pitFull_any (a : Option Addr) (c : Nat) (bs : List Blk) (w : World) (hs : Pit w a bs) (hp : pitOk bs = true) :
    Calls Tryd.prog 37 #[.slice a bs.length c] w (FullOut bs w) := by
  have hl8 := pitOk_len hp
  have HE : Hid (fullF bs = fullN bs bs.length) := by show _ = _; simp [fullF, hp]
  have hmk := mkBlkRow bs.length (by omega)
  go_enter Tryd.func37, Tryd.ntmps37
  go_wp2_with (go_at_call 18; refine (pitValid_any _ _ _ _ (by omega) hs).mono ?_; rintro e w1 ⟨rfl, hb1⟩)
  clear hmk
  obtain ⟨W0, hW0⟩ : ∃ W0, W0 = w1.alloc (.cells (madeCells #[.int .i64 0, .slice none 0 0] (bs.length * 2)) 28) := ⟨_, rfl⟩
  have hB0 : BRow W0 w1.heap.size bs.length (fun _ => ⟨0, [], none, 0⟩) := by rw [hW0]; exact BRow.made _ _
  have hb0 : Below w.heap.size w W0 := by rw [hW0]; exact hb1.alloc hb1.size _
  rw [← hW0]
  have hz1 := hb1.size
  clear hW0 hb1
  generalize w1.heap.size = G at hB0 hz1 ⊢
  go_loopw [15] (fun i wr => ∃ (k : Nat) (f : Nat → PB), k ≤ bs.length ∧ i = .int .i64 k ∧ BRow wr G bs.length f ∧ Hid (∀ j, j < k → (f j).blk = fullB bs j) ∧ Below w.heap.size w wr) (fun i _ => bs.length - (intOf i).toNat)
  case atStart => exact ⟨0, _, by omega, rfl, hB0, fun j hj => by omega, hb0⟩
  case round =>
    clear hB0 hb0
    obtain ⟨k, f, hk, rfl, hB, HF, hb⟩ := hrel
    by_cases hlt : k < bs.length
    · obtain ⟨b, off, A, C, rfl, hbw, h1, h2, h3, h4, h5, h6⟩ := Pit.at (hs.below hb) hlt
      have hsh := wrap_pow (n := k) (by omega)
      have hlo := closeOf_lt hp (two_pow_lt hlt)
      have hlo8 : closeOf bs (2 ^ k) < 256 := Nat.lt_of_lt_of_le hlo (pow_le_of (k := 8) hl8)
      have hnot := bits_andNot_nat _ hlo8 k (by omega)
      have hcl : ∀ w, Pit w (some ⟨b, off, none⟩) bs → Calls Tryd.prog 22 #[.slice (some ⟨b, off, none⟩) bs.length c, .int .i64 (2 ^ k)] w fun e w' => e = .returned (.int .i64 ((closeOf bs (2 ^ k) : Nat) : Int)) ∧ Below w.heap.size w w' :=
        fun w h => (close_pow hp hlt) ▸ pitClose_any _ c bs (2 ^ k) w (by omega) h
      have HFB : Hid (fullB bs k = ⟨(nth bs k).worth, bitsBelow (closeOf bs (2 ^ k)) k⟩) := rfl
      have HHI : Hid (∀ i, k < i → (closeOf bs (2 ^ k)).testBit i = false) := fun i hi => closeOf_pow_high hp hi
      have HCL := Lib.hid hcl
      have HNOT := Lib.hid hnot
      clear hcl hnot hlo
      have HBT : Hid (∀ i, i < 8 → (closeOf bs (2 ^ k) - (if (closeOf bs (2 ^ k)).testBit k then 2 ^ k else 0)).testBit i = ((closeOf bs (2 ^ k)).testBit i && !decide (i = k))) := fun i hi => andNot_bit _ hlo8 k (by omega) i hi
      generalize closeOf bs (2 ^ k) = m at HCL HNOT hlo8 HFB HHI HBT
      have hm2 : m - (if m.testBit k then 2 ^ k else 0) < 256 := by omega
      generalize (m - (if m.testBit k then 2 ^ k else 0)) = m2 at HNOT HBT hm2
      have HBB : Hid (bitsBelow m2 63 = bitsBelow m k) := by
        show _ = _
        rw [bits_all (m := m2) (k := 8) (fun i hi => bit_lt (n := 8) hm2 hi) (by omega)]
        have e1 : bitsBelow m2 8 = bitsBelow m2 k := bits_all (fun i hi => by
          by_cases h8 : i < 8
          · rw [HBT.out i h8]
            by_cases e : i = k
            · subst e; simp
            · rw [HHI.out i (by omega)]; rfl
          · exact bit_lt (n := 8) hm2 (by omega)) (by omega)
        rw [e1]
        exact bits_congr fun i hi => by rw [HBT.out i (by omega)]; simp; omega
      go_wp2_with fail
      obtain ⟨X, hX⟩ : ∃ X, wr.heap.size = X := ⟨_, rfl⟩
      obtain ⟨W, hW⟩ : ∃ W, W = wr.alloc (.cells #[.int .i64 (nth bs k).worth, .slice A (nth bs k).needs.length C] 28) := ⟨_, rfl⟩
      have bW : Below wr.heap.size wr W := by rw [hW]; exact (by repeat (first | with_reducible assumption | exact Below.refl _ _ | refine below_drewN ?_ _ | refine Below.drew ?_ | refine Below.alloc ?_ (by first | omega | (simp; done) | (simp; omega)) _ | refine Below.setCell ?_ (by first | omega | (simp; done) | (simp; omega)) _))
      have x1 : W.cell? ⟨X, 0, none⟩ = some (.int .i64 (nth bs k).worth) := by rw [hW, ← hX]; simp
      rw [hX, ← hW]
      have pW := (hs.below hb).below bW
      have hzX : X < W.heap.size := by rw [hW]; simp; omega
      have hbW := hb.trans (bW.mono hb.size)
      replace hB := hB.below bW
      clear hW bW h1 h2 h3 h4 h5 h6
      have k1 := cell_regrown x1
      have i1 := grown_pit pW HCL.out
      have hnot := HNOT.out
      have hsh2 := wrapI_pow (k := k) (by omega)
      refine wp_region_quiet_below (by kernel_rfl) (by kernel_rfl) ?_
      repeat (quiet_step (first | with_reducible exact i1 _ _))
      refine wpQuiet_nil ?_
      intro _ hw'
      obtain ⟨⟨dq, osq⟩, hw''⟩ := hw'
      have hgr : Below W.heap.size W (grow (redrawn W dq) osq) := below_regrown W dq osq
      subst hw''
      generalize grow (redrawn W dq) osq = W2 at hgr ⊢
      go_wp2_with fail
      have hz2 := hgr.size
      have x2 : W2.cell? ⟨X, 0, none⟩ = some (.int .i64 (nth bs k).worth) := (hgr.cell (p := ⟨X, 0, none⟩) hzX).trans x1
      have hB2 := hB.below hgr
      have hb2 := hbW.trans (hgr.mono hbW.size)
      clear x1 k1 i1 hnot hsh2 hsh hB hbW hgr
      have hI1 : (k : Int) < (bs.length : Int) := by omega
      go_region_with (go_at_call 73; refine (setIndices_any m2 _ (by omega)).mono ?_; rintro e w5 ⟨v, rfl, ho5, b5⟩; obtain ⟨a5, c5, rfl, hc5, hi5⟩ := OwnZ.ints ho5; have b25 : Below W2.heap.size W2 w5 := Below.trans (by repeat (first | exact Below.refl _ _ | refine Below.drew ?_)) (b5.mono (by simp)); have x5 := (b25.cell (p := ⟨X, 0, none⟩) (by show X < _; omega)).trans x2; have hB5 := hB2.below b25; have f5 := fun i => hB5.frozen i; obtain ⟨c6, c7⟩ := hB5.cell hlt; clear b5)
      all_goals
        have okx : PB.Ok w5 ⟨(nth bs k).worth, bitsBelow m2 63, a5, c5⟩ := ⟨by have := bitsBelow_len m2 63; show (bitsBelow m2 63).length ≤ _; omega, hc5, OwnZ.cap ho5, hi5⟩
        have hfar : ∀ b o, 0 < (bitsBelow m2 63).length → a5 = some ⟨b, o, none⟩ → b ≠ G := fun b o _ e eg => by
          subst e
          have h1 := OwnZ.far ho5
          have h2 := hB2.lt
          simp at h1; omega
        have hset := hB5.set (i := k) ⟨(nth bs k).worth, bitsBelow m2 63, a5, c5⟩ okx hfar
        have hb5 : Below w.heap.size w ((w5.setCell ⟨G, k * 2, none⟩ (.int .i64 (nth bs k).worth)).setCell ⟨G, k * 2 + 1, none⟩ (.slice a5 (bitsBelow m2 63).length c5)) :=
          ((hb2.trans (b25.mono hb2.size)).setCell (by show _ ≤ G; exact hz1) _).setCell (by show _ ≤ G; exact hz1) _
        have HN : Hid (∀ j, j < k + 1 → (if j = k then (⟨(nth bs k).worth, bitsBelow m2 63, a5, c5⟩ : PB) else f j).blk = fullB bs j) := by
          intro j hj
          by_cases e : j = k
          · rw [if_pos e, e, HFB.out]; show Blk.mk _ _ = _; rw [HBB.out]
          · rw [if_neg e]; exact HF.out j (by omega)
        clear okx hfar x5 hB5 f5 c6 c7 hi5 hc5 ho5 b25 hB2 hb2 x2
        go_wp2_with fail
        go_roundw
        case rel => exact ⟨k + 1, _, by omega, by go_num, by first | exact hset | exact hset.below (by repeat (first | exact Below.refl _ _ | refine Below.drew ?_)), HN, by repeat (first | exact hb5 | refine Below.drew ?_)⟩
        case measure => simp [intOf] <;> omega
    · have hkk : k = bs.length := by omega
      have hpit := hB.pit
      have hfull : (List.range bs.length).map (fun i => (f i).blk) = fullF bs := by
        rw [HE.out]; exact List.map_congr_left fun i hi => HF.out i (by rw [hkk]; exact List.mem_range.1 hi)
      rw [hfull] at hpit
      have hlen : bs.length = (fullF bs).length := by rw [HE.out, fullN_len]
      have HLN := Lib.hid hlen
      clear hfull hkk hlen
      go_wp2_with fail
      go_ret
      exact ⟨G, bs.length, by rw [← HLN.out]; rfl, by rw [← HLN.out]; exact Nat.le_refl _, hpit, hb⟩

theorem payMost_any (a : Option Addr) (c : Nat) (bs : List Blk) (w : World) (hl : bs.length ≤ 1048576) (hs : Pit w a bs) :
    Calls Tryd.prog 61 #[.slice a bs.length c] w fun e w' => e = .returned (.int .i64 (payMostF bs)) ∧ Below w.heap.size w w' := by
  cases hp : pitOk bs
  · go_enter Tryd.func61, Tryd.ntmps61
    go_wp2_with (go_at_call 18; refine (pitValid_any _ _ _ _ hl hs).mono ?_; rintro e w' ⟨rfl, hb⟩)
    go_ret
    exact ⟨by simp [payMostF, hp], hb⟩
  obtain ⟨F, hF⟩ : ∃ F, F = fullN bs bs.length := ⟨_, rfl⟩
  have hFF : fullF bs = F := by rw [hF]; simp [fullF, hp]
  have HFin : Hid (∀ R val f, PitFlow F R val → Bfs (F.length + 2) F.length R f → f (F.length + 1) < 0 → val = payMostF bs) := by
    intro R val f h1 h2 h3; rw [hF] at h1 h2 h3; exact payMost_impl hp h1 h2 h3
  have hpF : pitOk F = true := by rw [hF]; exact fullN_ok hp
  have HFF := Lib.hid hFF
  clear hFF hF
  go_enter Tryd.func61, Tryd.ntmps61
  go_wp2_with (go_at_call 18; refine (pitValid_any _ _ _ _ hl hs).mono ?_; rintro e w1 ⟨rfl, b1⟩)
  refine (pitFull_any _ _ _ _ (hs.below b1) hp).mono ?_
  rintro e w2 ⟨g, C, rfl, hC, hP, b2⟩
  rw [HFF.out] at hC hP ⊢
  replace b2 := b1.trans (b2.mono b1.size)
  clear b1
  go_wp2_with fail
  refine (pitFlow_any _ _ _ _ hP hpF).mono ?_
  rintro e w3 ⟨R, val, f, rfl, hm, hfl, hB, hft, hz3, b3⟩
  have hv := HFin.out R val f hfl hB hft
  have HV := Lib.hid hv
  replace b3 := b2.trans (b3.mono b2.size)
  clear hv hm hfl hB hft hz3 b2
  go_wp2_with fail
  go_ret
  exact ⟨by rw [← HV.out]; rfl, b3⟩
end Go.Proofs.YtnjpifaphmeepaaDoor
