/- The law FnPitRaise, walked. -/
import Derived.Test.YtnjpifaphmeepaaDoorLat
import Derived.Test.YtnjpifaphmeepaaDoorSame
import Derived.Test.YtnjpifaphmeepaaDoorW9
import Derived.Test.YtnjpifaphmeepaaDoorW14
namespace Go.Proofs.YtnjpifaphmeepaaDoor
open Go Go.RowKit

theorem raise_len (bs : List Blk) (x : Int) : (raiseL bs x).length = bs.length := by simp [raiseL]
theorem raise_nth {bs : List Blk} {x : Int} {k : Nat} (h : k < bs.length) : nth (raiseL bs x) k = raiseB x (nth bs k) := nth_map h
theorem raise_ok {bs : List Blk} (hp : pitOk bs = true) {x : Int} (h0 : 0 ≤ x) : pitOk (raiseL bs x) = true := by
  have key : ∀ (l : List Blk) (i : Nat), blksOk i l = true → blksOk i (raiseL l x) = true := by
    intro l
    induction l with
    | nil => intro i _; rfl
    | cons b l ih =>
      intro i h
      simp only [blksOk, Bool.and_eq_true] at h
      show blksOk i (raiseB x b :: raiseL l x) = true
      simp only [blksOk, Bool.and_eq_true]
      refine ⟨?_, ih (i + 1) h.2⟩
      have h1 := h.1
      simp only [blkOk, isIn, Bool.and_eq_true, decide_eq_true_eq] at h1 ⊢
      refine ⟨⟨?_, h1.1.2⟩, h1.2⟩
      show -20 ≤ min (b.worth + x) 20 ∧ min (b.worth + x) 20 ≤ 20
      omega
  simp only [pitOk, Bool.and_eq_true, decide_eq_true_eq] at hp ⊢
  exact ⟨by rw [raise_len]; exact hp.1, key bs 0 hp.2⟩
theorem raise_needs {bs : List Blk} {x : Int} {i j : Nat} (hi : i < bs.length) : needsB (raiseL bs x) i j = needsB bs i j := by
  unfold needsB; rw [raise_nth hi]; rfl
theorem raise_closed {bs : List Blk} (x : Int) (S : Nat → Bool) : ClosedS (raiseL bs x) S ↔ ClosedS bs S := by
  constructor
  · intro h i j hi hj h1 h2
    exact h i j (by rw [raise_len]; exact hi) (by rw [raise_len]; exact hj) h1 (by rw [raise_needs hi]; exact h2)
  · intro h i j hi hj h1 h2
    rw [raise_len] at hi hj
    exact h i j hi hj h1 (by rw [← raise_needs hi]; exact h2)
theorem raise_may {bs : List Blk} (hp : pitOk bs = true) {x : Int} (h0 : 0 ≤ x) (m : Nat) : mayOf (raiseL bs x) m = mayOf bs m := by
  rw [Bool.eq_iff_iff, may_closed (raise_ok hp h0), may_closed hp, raise_closed]
/-- what a set is worth more, is worth more in a greater one -/
theorem raise_worth {bs : List Blk} (hp : pitOk bs = true) {x : Int} (h0 : 0 ≤ x) {S T : Nat → Bool} (hST : ∀ i, S i = true → T i = true) : worthS (raiseL bs x) S - worthS bs S ≤ worthS (raiseL bs x) T - worthS bs T := by
  unfold worthS
  rw [raise_len, ← sumN_sub, ← sumN_sub]
  refine sumN_le fun i hi => ?_
  rw [raise_nth hi]
  have hw := pitOk_worth hp hi
  have e : (raiseB x (nth bs i)).worth = min ((nth bs i).worth + x) 20 := rfl
  rw [e]
  cases hs : S i
  · cases ht : T i
    · simp
    · simp only [if_true]; simp; omega
  · rw [hST i hs]; simp
theorem raise_best {bs : List Blk} (hp : pitOk bs = true) {x : Int} (h0 : 0 ≤ x) {m o : Nat} (hm : IsBest bs m) (ho : IsBest (raiseL bs x) o) : m &&& o = m ∧ worthOf bs m ≤ worthOf (raiseL bs x) o := by
  have hlt : o < 2 ^ bs.length := by have := ho.lt; rwa [raise_len] at this
  have hmo : mayOf bs o = true := by rw [← raise_may hp h0]; exact ho.may
  have l1 : m &&& o < 2 ^ bs.length := Nat.and_lt_two_pow _ hlt
  have l2 : m ||| o < 2 ^ bs.length := Nat.or_lt_two_pow hm.lt hlt
  have h1 := worth_modular bs m o
  have h2 := ho.most (m ||| o) (by rw [raise_len]; exact l2) (by rw [raise_may hp h0]; exact may_or hp hm.may hmo)
  have h3 := raise_worth hp h0 (S := o.testBit) (T := (m ||| o).testBit) (fun i hi => by rw [Nat.testBit_or, hi]; simp)
  rw [← worth_sum, ← worth_sum, ← worth_sum, ← worth_sum] at h3
  have h4 := hm.most _ l1 (may_and hp hm.may hmo)
  have h5 := hm.least _ l1 (may_and hp hm.may hmo) (by omega)
  have h6 : m &&& o ≤ m := Nat.and_le_left
  refine ⟨by omega, ?_⟩
  have h7 := ho.most m (by rw [raise_len]; exact hm.lt) (by rw [raise_may hp h0]; exact hm.may)
  have h8 := raise_worth hp h0 (S := fun _ => false) (T := m.testBit) (fun i hi => by cases hi)
  have z1 : worthS (raiseL bs x) (fun _ => false) = 0 := (sumN_congr fun i _ => by simp).trans (sumN_zero _)
  have z2 : worthS bs (fun _ => false) = 0 := (sumN_congr fun i _ => by simp).trans (sumN_zero _)
  rw [z1, z2, ← worth_sum, ← worth_sum] at h8
  omega

set_option maxHeartbeats 1000000 in
theorem drawPitRaise_any (a : Option Addr) (n c : Nat) (w : World) (hc : n ≤ c) (hn : n ≤ 1048576) (hb : Bytes w a n) : Calls Tryd.prog 54 #[.slice a n c] w (DrawnSet w) := by
  go_enter Tryd.func54, Tryd.ntmps54
  go_wp2_with fail
  refine (l20Open_any a n c w hc hn hb).mono ?_
  rintro e w1 ⟨n', c', rfl, hr, b1⟩
  go_wp2_with fail
  refine (l20Pit_any w.heap.size a n' c' 0 9 w1 hr (by omega) (by omega) (by omega)).mono ?_
  rintro e w2 ⟨bs, A, C, p', rfl, h9, hC, ⟨g, rfl⟩, hp, r2, _, hu⟩
  have hb2 : Below w.heap.size w w2 := b1.trans ((hu.mono (by have := b1.size; omega)).below (Nat.le_refl _))
  have hup : ∀ W W', Below w.heap.size w W → (∀ K, Upto K w.heap.size W W') → Below w.heap.size w W' := fun W W' hb hu => hb.trans ((hu w.heap.size).below (Nat.le_refl _))
  have HP0 := Lib.hid hp
  have HU := Lib.hid hup
  clear hu hr hp hup
  go_wp2_with fail
  refine (pick_up _ _ _ _ _ _ w2 r2 (by omega) (by omega)).mono ?_
  rintro e w5 ⟨S, rfl, hs1, _, r5, u5⟩
  replace hs1 := hs1 (by omega)
  have hb5 := HU.out _ _ hb2 u5
  have U5 : Hid (∀ K, Upto K w.heap.size w2 w5) := u5
  clear u5 r2 hb2
  go_wp2_with fail
  refine (pick_up _ _ _ _ _ _ w5 r5 (by omega) (by omega)).mono ?_
  rintro e w6 ⟨y1, rfl, hy1, _, r6, u6⟩
  replace hy1 := hy1 (by omega)
  have hb6 := HU.out _ _ hb5 u6
  have U6 : Hid (∀ K, Upto K w.heap.size w2 w6) := fun K => (U5.out K).trans (u6 K)
  obtain ⟨d1, e1, e2, e3, e4⟩ : ∃ d1 : Int, Int.tdiv (y1 : Int) 29 = d1 ∧ (y1 : Int) / 29 = d1 ∧ 0 ≤ d1 ∧ d1 ≤ 1 := ⟨(y1 : Int) / 29, Int.tdiv_eq_ediv_of_nonneg (by omega), rfl, by omega, by omega⟩
  clear u6 r5 hb5 U5
  go_wp2_with fail
  refine (pick_up _ _ _ _ _ _ w6 r6 (by omega) (by omega)).mono ?_
  rintro e w7 ⟨y2, rfl, hy2, _, r7, u7⟩
  replace hy2 := hy2 (by omega)
  have hb7 := HU.out _ _ hb6 u7
  have hp7 := HP0.out w7 ((U6.out _).trans (u7 _))
  obtain ⟨d2, f1, f2, f3, f4⟩ : ∃ d2 : Int, Int.tdiv (y2 : Int) 29 = d2 ∧ (y2 : Int) / 29 = d2 ∧ 0 ≤ d2 ∧ d2 ≤ 1 := ⟨(y2 : Int) / 29, Int.tdiv_eq_ediv_of_nonneg (by omega), rfl, by omega, by omega⟩
  clear u7 r6 hb6 U6
  go_wp2_with fail
  go_ret2
  exact ⟨bs, g, C, _, rfl, h9, hC, by omega, by omega, hp7, hb7⟩

set_option maxRecDepth 100000 in
set_option maxHeartbeats 1000000 in
theorem lawPitRaise (a : Option Addr) (n c : Nat) (w : World) (hc : n ≤ c) (hn : n ≤ 9223372036854775807) (hb : n ≤ 1048576 → Bytes w a n) (hpw : Pow w) :
    Calls Tryd.prog 13 #[.slice a n c] w fun e w' => e = .returned (.bool true) ∧ Below w.heap.size w w' := by
  by_cases hbig : 1048576 < n
  · go_enter Tryd.func13, Tryd.ntmps13
    go_wp2_with fail
    go_ret
    exact ⟨rfl, (by repeat (first | with_reducible assumption | exact Below.refl _ _ | refine below_drewN ?_ _ | refine Below.drew ?_ | refine Below.alloc ?_ (by first | omega | (simp; done) | (simp; omega)) _ | refine Below.setCell ?_ (by first | omega | (simp; done) | (simp; omega)) _))⟩
  replace hb := hb (by omega)
  go_enter Tryd.func13, Tryd.ntmps13
  go_wp2_with fail
  refine (drawPitRaise_any a n c w hc (by omega) hb).mono ?_
  rintro e w1 ⟨bs, g, C, s, rfl, h9, hC, hs1, hs2, hp, hbt⟩
  clear hb
  have hF9 : (raiseF bs s).length ≤ 9 := by
    unfold raiseF; split
    · rw [raise_len]; exact h9
    · simp
  go_wp2_with fail
  refine (pitRaise_any _ _ bs s _ (by omega) hp).mono ?_
  rintro e w2 ⟨aF, CF, rfl, hCF, hpF, bN⟩
  replace hp := hp.below bN
  replace hbt := hbt.trans (bN.mono hbt.size)
  clear bN
  go_wp2_with fail
  refine (sRaise_any _ _ bs s _ (by omega) hp).mono ?_
  rintro e w2 ⟨aS, CS, rfl, hCS, hpS, bN⟩
  replace hp := hp.below bN
  replace hpF := hpF.below bN
  replace hbt := hbt.trans (bN.mono hbt.size)
  clear bN
  have hd : decide (raiseF bs s = raiseF bs s) = true := by simp
  go_wp2_with fail
  refine (toB (samePit_any _ _ _ _ _ _ _ (by omega) (by omega) hpF hpS)).mono ?_
  rintro e w2 ⟨rfl, bN⟩
  replace hp := hp.below bN
  replace hpF := hpF.below bN
  replace hbt := hbt.trans (bN.mono hbt.size)
  clear bN hpS hCS hd
  cases hv : raiseOk bs s
  · have hlen : (raiseF bs s).length = 0 := by simp [raiseF, hv]
    generalize raiseF bs s = F at *
    cases hok : pitOk bs
    · go_wp2_with fail
      refine (toB (spitValid_any _ _ bs _ (by omega) hp)).mono ?_
      rintro e w2 ⟨rfl, bN⟩
      replace hp := hp.below bN
      replace hbt := hbt.trans (bN.mono hbt.size)
      clear bN
      rw [hok]
      go_wp2_with fail
      refine (alive_any _ (hpw.below hbt)).mono ?_
      rintro e w2 ⟨rfl, bN⟩
      replace hp := hp.below bN
      replace hbt := hbt.trans (bN.mono hbt.size)
      clear bN
      go_wp2_with fail
      go_ret
      exact ⟨rfl, hbt⟩
    · by_cases q0 : s < 0
      · have q1 : decide (s < 0) = true := by simpa using q0
        go_wp2_with fail
        refine (toB (spitValid_any _ _ bs _ (by omega) hp)).mono ?_
        rintro e w2 ⟨rfl, bN⟩
        replace hp := hp.below bN
        replace hbt := hbt.trans (bN.mono hbt.size)
        clear bN
        rw [hok]
        go_wp2_with fail
        refine (alive_any _ (hpw.below hbt)).mono ?_
        rintro e w2 ⟨rfl, bN⟩
        replace hp := hp.below bN
        replace hbt := hbt.trans (bN.mono hbt.size)
        clear bN
        go_wp2_with fail
        go_ret
        exact ⟨rfl, hbt⟩
      · have q1 : decide (s < 0) = false := by simpa using q0
        have q2 : 20 < s := by simp [raiseOk, hok] at hv; omega
        have q3 : decide (20 < s) = true := by simpa using q2
        go_wp2_with fail
        refine (toB (spitValid_any _ _ bs _ (by omega) hp)).mono ?_
        rintro e w2 ⟨rfl, bN⟩
        replace hp := hp.below bN
        replace hbt := hbt.trans (bN.mono hbt.size)
        clear bN
        rw [hok]
        go_wp2_with fail
        refine (alive_any _ (hpw.below hbt)).mono ?_
        rintro e w2 ⟨rfl, bN⟩
        replace hp := hp.below bN
        replace hbt := hbt.trans (bN.mono hbt.size)
        clear bN
        go_wp2_with fail
        go_ret
        exact ⟨rfl, hbt⟩
  obtain ⟨hok, x0, x1⟩ := raiseOk_of hv
  have q1 : decide (s < 0) = false := by simpa using x0
  have q3 : decide (20 < s) = false := by simpa using x1
  have hl8 := pitOk_len hok
  have eF : raiseF bs s = raiseL bs s := by simp [raiseF, hv]
  have hokF : pitOk (raiseF bs s) = true := by rw [eF]; exact raise_ok hok x0
  have hlF : (raiseF bs s).length = bs.length := by rw [eF, raise_len]
  obtain ⟨m, em, hm⟩ := best_is hok
  obtain ⟨o, eo, ho⟩ := best_is hokF
  have hmo := raise_best hok x0 hm (eF ▸ ho)
  have hM : mostF bs = worthOf bs m := mostF_best hok hm
  have hO : mostF (raiseF bs s) = worthOf (raiseL bs s) o := by rw [mostF_best hokF ho, eF]
  have hm2 : m < 256 := Nat.lt_of_lt_of_le hm.lt (pow_le_of (k := 8) hl8)
  have ho2 : o < 256 := Nat.lt_of_lt_of_le ho.lt (pow_le_of (k := 8) (by omega))
  have hge : decide (mostF bs ≤ mostF (raiseF bs s)) = true := by rw [hM, hO]; simpa using hmo.2
  have hge' : mostF bs ≤ mostF (raiseF bs s) := by simpa using hge
  have HE1 := Lib.hid em
  have HE2 := Lib.hid eo
  have HSB := Lib.hid hmo.1
  have HV := Lib.hid hokF
  clear em eo hmo hM hO hm ho eF
  generalize raiseF bs s = F at *
  obtain ⟨u, hu⟩ : ∃ u, mostF bs = u := ⟨_, rfl⟩
  obtain ⟨v, hv2⟩ : ∃ v, mostF F = v := ⟨_, rfl⟩
  rw [hu, hv2] at hge hge'
  have HU := Lib.hid hu
  have HV2 := Lib.hid hv2
  clear hu hv2 hokF hlF
  have bb : ((m : Int) == (m : Int)) = true := by simp
  go_wp2_with fail
  refine (toB (spitValid_any _ _ bs _ (by omega) hp)).mono ?_
  rintro e w2 ⟨rfl, bN⟩
  rw [hok]
  replace hp := hp.below bN
  replace hpF := hpF.below bN
  replace hbt := hbt.trans (bN.mono hbt.size)
  clear bN
  go_wp2_with fail
  refine (pitBest_any _ _ bs _ (by omega) hp).mono ?_
  rintro e w2 ⟨rfl, bN⟩
  rw [HE1.out]
  replace hp := hp.below bN
  replace hpF := hpF.below bN
  replace hbt := hbt.trans (bN.mono hbt.size)
  clear bN
  go_wp2_with fail
  refine (pitBest_any _ _ F _ (by omega) hpF).mono ?_
  rintro e w2 ⟨rfl, bN⟩
  rw [HE2.out]
  replace hp := hp.below bN
  replace hpF := hpF.below bN
  replace hbt := hbt.trans (bN.mono hbt.size)
  clear bN
  go_wp2_with fail
  refine (both_any m o _ hm2 ho2).mono ?_
  rintro e w2 ⟨rfl, rfl⟩
  rw [HSB.out]
  go_wp2_with fail
  refine (pitValid_any _ _ F _ (by omega) hpF).mono ?_
  rintro e w2 ⟨rfl, bN⟩
  rw [HV.out]
  replace hp := hp.below bN
  replace hpF := hpF.below bN
  replace hbt := hbt.trans (bN.mono hbt.size)
  clear bN
  go_wp2_with fail
  refine (pitMost_any _ _ F _ (by omega) hpF).mono ?_
  rintro e w2 ⟨rfl, bN⟩
  rw [HV2.out]
  replace hp := hp.below bN
  replace hbt := hbt.trans (bN.mono hbt.size)
  clear bN
  go_wp2_with fail
  refine (pitMost_any _ _ bs _ (by omega) hp).mono ?_
  rintro e w2 ⟨rfl, bN⟩
  rw [HU.out]
  replace hbt := hbt.trans (bN.mono hbt.size)
  clear bN
  go_wp2_with fail
  go_ret
  exact ⟨rfl, hbt⟩
end Go.Proofs.YtnjpifaphmeepaaDoor
