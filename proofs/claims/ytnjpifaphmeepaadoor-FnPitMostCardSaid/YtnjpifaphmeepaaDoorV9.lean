/- The law FnPitMost, walked. -/
import Derived.Test.YtnjpifaphmeepaaDoorLat
import Derived.Test.YtnjpifaphmeepaaDoorW9
import Derived.Test.YtnjpifaphmeepaaDoorV1
namespace Go.Proofs.YtnjpifaphmeepaaDoor
open Go Go.RowKit

/-! ### a block more that needs nothing -/
theorem more_nth {bs : List Blk} (v : Int) {i : Nat} (h : i < bs.length) : nth (bs ++ [⟨v, []⟩]) i = nth bs i := nth_append_left h
theorem more_last (bs : List Blk) (v : Int) : nth (bs ++ [⟨v, []⟩]) bs.length = ⟨v, []⟩ := nth_append_len bs _ []
theorem more_ok {bs : List Blk} (hp : pitOk bs = true) (h8 : bs.length < 8) {v : Int} (h1 : -20 ≤ v) (h2 : v ≤ 20) : pitOk (bs ++ [⟨v, []⟩]) = true := by
  have : blksOk (0 + bs.length) [⟨v, []⟩] = true := by simp [blksOk, blkOk, areIdx, ascB, isIn, h1, h2]
  simp only [pitOk, Bool.and_eq_true, decide_eq_true_eq] at hp ⊢
  exact ⟨by simp; omega, by rw [blksOk_append, hp.2, this]; rfl⟩
theorem more_closed {bs : List Blk} (hp : pitOk bs = true) (v : Int) (S : Nat → Bool) : ClosedS (bs ++ [⟨v, []⟩]) S ↔ ClosedS bs S := by
  constructor
  · intro h i j hi hj h1 h2
    refine h i j (by simp; omega) (by simp; omega) h1 ?_
    unfold needsB at h2 ⊢; rw [more_nth v hi]; exact h2
  · intro h i j hi hj h1 h2
    by_cases e : i < bs.length
    · have h3 : needsB bs i j = true := by unfold needsB at h2 ⊢; rw [more_nth v e] at h2; exact h2
      exact h i j e (by have := need_lt hp e h3; omega) h1 h3
    · have : i = bs.length := by simp at hi; omega
      subst this
      unfold needsB at h2; rw [more_last] at h2; simp [hasZ] at h2
theorem more_worth (bs : List Blk) (v : Int) (S : Nat → Bool) : worthS (bs ++ [⟨v, []⟩]) S = worthS bs S + if S bs.length then v else 0 := by
  unfold worthS
  rw [List.length_append, List.length_singleton]
  simp only [sumN]
  rw [more_last]
  congr 1
  exact sumN_congr fun i hi => by rw [more_nth v hi]
theorem more_most {bs : List Blk} (hp : pitOk bs = true) (h8 : bs.length < 8) {v : Int} (h1 : -20 ≤ v) (h2 : v ≤ 20) : mostF (bs ++ [⟨v, []⟩]) = mostF bs + max v 0 := by
  have hp' := more_ok hp h8 h1 h2
  obtain ⟨o, _, ho⟩ := best_is hp'
  obtain ⟨m, _, hm⟩ := best_is hp
  rw [mostF_best hp' ho, mostF_best hp hm]
  have hlen : (bs ++ [(⟨v, []⟩ : Blk)]).length = bs.length + 1 := by simp
  have hlt : 2 ^ bs.length < 2 ^ (bs.length + 1) := Nat.pow_lt_pow_right (by omega) (by omega)
  have up : worthOf (bs ++ [⟨v, []⟩]) o ≤ worthOf bs m + max v 0 := by
    rw [worth_sum, more_worth]
    have hbit : ∀ i, i < bs.length → (maskOf o.testBit bs.length).testBit i = o.testBit i := fun i hi => by rw [maskOf_bit]; simp [hi]
    have hcl : ClosedS bs (maskOf o.testBit bs.length).testBit := fun i j hi hj h1 h2 => by
      rw [hbit i hi] at h1; rw [hbit j hj]
      exact (more_closed hp v _).1 ((may_closed hp').1 ho.may) i j hi hj h1 h2
    have h3 := hm.most _ (maskOf_lt _ _) ((may_closed hp).2 hcl)
    have h4 : worthOf bs (maskOf o.testBit bs.length) = worthS bs o.testBit := by rw [worth_sum]; exact sumN_congr fun i hi => by rw [hbit i hi]
    split <;> omega
  have low : worthOf bs m + max v 0 ≤ worthOf (bs ++ [⟨v, []⟩]) o := by
    have mb : m.testBit bs.length = false := bit_lt hm.lt (Nat.le_refl _)
    by_cases hv : 0 ≤ v
    · have hb : ∀ i, i < bs.length → (m ||| 2 ^ bs.length).testBit i = m.testBit i := fun i hi => by rw [Nat.testBit_or, Nat.testBit_two_pow]; simp; omega
      have hcl : ClosedS bs (m ||| 2 ^ bs.length).testBit := fun i j hi hj h1 h2 => by
        rw [hb i hi] at h1; rw [hb j hj]; exact (may_closed hp).1 hm.may i j hi hj h1 h2
      have h3 := ho.most (m ||| 2 ^ bs.length) (by rw [hlen]; exact Nat.or_lt_two_pow (by have := hm.lt; omega) hlt) ((may_closed hp').2 ((more_closed hp v _).2 hcl))
      rw [worth_sum, more_worth] at h3
      have h4 : worthS bs (m ||| 2 ^ bs.length).testBit = worthOf bs m := by rw [worth_sum]; exact sumN_congr fun i hi => by rw [hb i hi]
      rw [h4, Nat.testBit_or, mb, Nat.testBit_two_pow] at h3
      simp at h3; omega
    · have h3 := ho.most m (by rw [hlen]; have := hm.lt; omega) ((may_closed hp').2 ((more_closed hp v _).2 ((may_closed hp).1 hm.may)))
      rw [worth_sum, more_worth, mb] at h3
      rw [worth_sum bs m]
      simp at h3; omega
  omega

set_option maxRecDepth 100000 in
set_option maxHeartbeats 1000000 in
theorem lawPitMost (a : Option Addr) (n c : Nat) (w : World) (hc : n ≤ c) (hn : n ≤ 9223372036854775807) (hb : n ≤ 1048576 → Bytes w a n) (hpw : Pow w) :
    Calls Tryd.prog 8 #[.slice a n c] w fun e w' => e = .returned (.bool true) ∧ Below w.heap.size w w' := by
  by_cases hbig : 1048576 < n
  · go_enter Tryd.func8, Tryd.ntmps8
    go_wp2_with fail
    go_ret
    exact ⟨rfl, (by repeat (first | with_reducible assumption | exact Below.refl _ _ | refine below_drewN ?_ _ | refine Below.drew ?_ | refine Below.alloc ?_ (by first | omega | (simp; done) | (simp; omega)) _ | refine Below.setCell ?_ (by first | omega | (simp; done) | (simp; omega)) _))⟩
  replace hb := hb (by omega)
  go_enter Tryd.func8, Tryd.ntmps8
  go_wp2_with fail
  refine (drawPitMost_any a n c w hc (by omega) hb).mono ?_
  rintro e w1 ⟨bs, g, C, rfl, h9, hC, hp, hbt⟩
  clear hb
  go_wp2_with fail
  refine (pitMost_any _ _ bs _ (by omega) hp).mono ?_
  rintro e w2 ⟨rfl, bN⟩
  replace hp := hp.below bN
  replace hbt := hbt.trans (bN.mono hbt.size)
  clear bN
  go_wp2_with fail
  refine (toB (sMost_any _ _ bs _ (by omega) hp)).mono ?_
  rintro e w2 ⟨rfl, bN⟩
  replace hp := hp.below bN
  replace hbt := hbt.trans (bN.mono hbt.size)
  clear bN
  cases hok : pitOk bs
  · have e1 : mostF bs = -1 := by simp [mostF, hok]
    rw [e1]
    clear e1
    go_wp2_with fail
    refine (alive_any _ (hpw.below hbt)).mono ?_
    rintro e w2 ⟨rfl, bN⟩
    replace hp := hp.below bN
    replace hbt := hbt.trans (bN.mono hbt.size)
    clear bN
    go_wp2_with fail
    go_ret
    exact ⟨rfl, hbt⟩
  have hx0 : 0 ≤ mostF bs ∧ mostF bs ≤ 160 := by
    obtain ⟨m, _, hm⟩ := best_is hok
    have h1 := hm.most 0 (Nat.pow_pos (by omega)) (mayFrom_zero bs 0)
    have h2 : worthOf bs 0 = 0 := by rw [worth_sum]; exact (sumN_congr fun i _ => by simp).trans (sumN_zero _)
    have h3 := worth_range hok (m : Int)
    rw [worthF_nat hok hm.lt] at h3
    rw [mostF_best hok hm]; omega
  obtain ⟨hx0, hx1⟩ := hx0
  obtain ⟨MO, hMO⟩ : ∃ L : List Blk, L = bs ++ [⟨3, []⟩] := ⟨_, rfl⟩
  obtain ⟨LE, hLE⟩ : ∃ L : List Blk, L = bs ++ [⟨-3, []⟩] := ⟨_, rfl⟩
  have HM : Hid (bs.length ≠ 8 → mostF MO = mostF bs + 3) := fun h => by rw [hMO]; exact more_most hok (by have := pitOk_len hok; omega) (by omega) (by omega)
  have HL : Hid (bs.length ≠ 8 → mostF LE = mostF bs) := fun h => by have h1 := more_most hok (by have := pitOk_len hok; omega) (v := -3) (by omega) (by omega); rw [hLE]; omega
  have hMOl : MO.length ≤ 1048576 := by rw [hMO]; simp; omega
  have hLEl : LE.length ≤ 1048576 := by rw [hLE]; simp; omega
  have HF : Hid (mostF bs = mostF bs) := rfl
  generalize mostF bs = x at hx0 hx1 HM HL ⊢
  obtain ⟨ps, hps, rb⟩ := Pit.pbs hp
  have hpl : ps.length = bs.length := by rw [← hps]; simp
  have H3 : Hid (∀ y : PB, y.blk = ⟨3, []⟩ → (ps ++ [y]).map PB.blk = MO) := by
    intro y hy; rw [List.map_append, hps, hMO]; simp [hy]
  have H4 : Hid (∀ y : PB, y.blk = ⟨-3, []⟩ → (ps ++ [y]).map PB.blk = LE) := by
    intro y hy; rw [List.map_append, hps, hLE]; simp [hy]
  clear hps hMO hLE HF
  have fin : ∀ V : World, True := fun _ => trivial
  clear fin
  obtain ⟨V, hV⟩ : ∃ V, V = w2 := ⟨_, rfl⟩
  rw [← hV] at hp hbt rb ⊢
  clear hV
  have hne8 : bs.length = 8 ∨ bs.length ≠ 8 := by omega
  go_wp2_with (first
    | (at_builtin; (refine appBlks (.tmp 25) (.tmp 26) (by rfl) rfl V.heap.size (.slice (some ⟨V.heap.size, 0, none⟩) 0 0) [] ps g 0 bs.length C rfl (OwnB.lit V _ (Nat.le_refl _)) rfl hpl (rb.alloc _) (rb.apart (Nat.le_refl _)) (by simp) (by omega) (by simp) ?_; intro v' w4 ho4 b4 hn4 _; obtain ⟨g4, C4, rfl, _, _, hg4, _⟩ := ho4.form (hn4 (by simp)); replace b4 := ((Below.refl _ _).alloc (Nat.le_refl _) _).trans b4; clear hn4; replace ho4 : OwnB w4 V.heap.size (.slice (some ⟨g4, 0, none⟩) bs.length C4) ps := (by simpa [hpl] using ho4); have z4 := b4.size))
    | (at_builtin; (refine appBlks (.tmp 27) (.tmp 29) (by rfl) rfl V.heap.size (.slice (some ⟨g4, 0, none⟩) bs.length C4) ps [⟨3, [], none, 0⟩] w4.heap.size 0 1 1 rfl (ho4.alloc _) rfl rfl (RdB.one_at _ ⟨3, [], none, 0⟩ _ ⟨by simp, by simp, by simp, .inl rfl⟩ rfl) (fun y hy b o h0 e he => by obtain rfl := List.mem_singleton.1 hy; cases e) (by first | omega | (simp; done) | (simp; omega)) (by first | omega | (simp; done) | (simp; omega)) (by first | omega | (simp; done) | (simp; omega)) ?_; intro v' w5 ho5 b5 hn5 _; obtain ⟨g5a, C5a, rfl, hc5, p5a⟩ := ho5.out (hn5 (by simp)) (H3.out _ rfl); have b5a := b4.trans (((Below.refl _ _).alloc z4 _).trans b5); have rba := rb.below b5a; clear hn5 ho5 ho4 b4 b5 z4 hg4))
    | (at_builtin; (refine appBlks (.tmp 31) (.tmp 32) (by rfl) rfl w5.heap.size (.slice (some ⟨w5.heap.size, 0, none⟩) 0 0) [] ps g 0 bs.length C rfl (OwnB.lit w5 _ (Nat.le_refl _)) rfl hpl (rba.alloc _) (rba.apart (Nat.le_refl _)) (by simp) (by omega) (by simp) ?_; intro v' w6 ho4 b4 hn4 _; obtain ⟨g4, C4, rfl, _, _, hg4, _⟩ := ho4.form (hn4 (by simp)); replace b4 := ((Below.refl _ _).alloc (Nat.le_refl _) _).trans b4; clear hn4; replace ho4 : OwnB w6 w5.heap.size (.slice (some ⟨g4, 0, none⟩) bs.length C4) ps := (by simpa [hpl] using ho4); have z4 := b4.size))
    | (at_builtin; (refine appBlks (.tmp 33) (.tmp 35) (by rfl) rfl w5.heap.size (.slice (some ⟨g4, 0, none⟩) bs.length C4) ps [⟨-3, [], none, 0⟩] w6.heap.size 0 1 1 rfl (ho4.alloc _) rfl rfl (RdB.one_at _ ⟨-3, [], none, 0⟩ _ ⟨by simp, by simp, by simp, .inl rfl⟩ rfl) (fun y hy b o h0 e he => by obtain rfl := List.mem_singleton.1 hy; cases e) (by first | omega | (simp; done) | (simp; omega)) (by first | omega | (simp; done) | (simp; omega)) (by first | omega | (simp; done) | (simp; omega)) ?_; intro v' w7 ho5 b5 hn5 _; obtain ⟨g5b, C5b, rfl, hc5, p5b⟩ := ho5.out (hn5 (by simp)) (H4.out _ rfl); have b5b := b4.trans (((Below.refl _ _).alloc z4 _).trans b5); have rbb := rba.below b5b; clear hn5 ho5 ho4 b4 b5 z4 hg4)))
  · go_ret
    exact ⟨rfl, hbt.trans ((b5a.trans (b5b.mono b5a.size)).mono hbt.size)⟩
  · have h8 : bs.length ≠ 8 := by omega
    have b7 := hbt.trans ((b5a.trans (b5b.mono b5a.size)).mono hbt.size)
    have pa := p5a.below b5b
    have q1 : (x + 3 == x + 3) = true := by simp
    have q2 : (x == x) = true := by simp
    have e1 := HM.out h8
    have e2 := HL.out h8
    have H1 := Lib.hid e1
    have H2 := Lib.hid e2
    clear e1 e2 h8 b5a b5b p5a rba rbb rb hp hbt
    refine (pitMost_any _ _ MO w7 hMOl pa).mono ?_
    rintro e w8 ⟨rfl, b8⟩
    rw [H1.out]
    have p8 := p5b.below b8
    replace b8 := b7.trans (b8.mono b7.size)
    clear pa b7
    go_wp2_with fail
    refine (pitMost_any _ _ LE w8 hLEl p8).mono ?_
    rintro e w9 ⟨rfl, b9⟩
    rw [H2.out]
    replace b9 := b8.trans (b9.mono b8.size)
    clear b8 p8
    go_wp2_with fail
    go_ret
    exact ⟨rfl, b9⟩
end Go.Proofs.YtnjpifaphmeepaaDoor
