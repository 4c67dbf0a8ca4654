/- The law FnPitDirect, walked. -/
import Derived.Test.YtnjpifaphmeepaaDoorV8
import Derived.Test.YtnjpifaphmeepaaDoorW12
namespace Go.Proofs.YtnjpifaphmeepaaDoor
open Go Go.RowKit

theorem asc_pre : ∀ (l : List Int) (x : Int), ascB (l ++ [x]) = true → ascB l = true ∧ ∀ y ∈ l, y < x
  | [], _, _ => ⟨rfl, fun y hy => by cases hy⟩
  | [y], x, h => by
    have h' : y < x := by simpa [ascB] using h
    exact ⟨rfl, fun z hz => by obtain rfl := List.mem_singleton.1 hz; exact h'⟩
  | y :: z :: l, x, h => by
    simp only [List.cons_append, ascB, Bool.and_eq_true, decide_eq_true_eq] at h ⊢
    obtain ⟨h1, h2⟩ := h
    obtain ⟨h3, h4⟩ := asc_pre (z :: l) x h2
    refine ⟨⟨h1, h3⟩, fun w hw => ?_⟩
    rcases List.mem_cons.1 hw with rfl | hw
    · have := h4 z (by simp); omega
    · exact h4 w hw
/-- an ascending list is its numbers in order -/
theorem asc_bits : ∀ (k : Nat) (l : List Int) (m : Nat), ascB l = true → (∀ x ∈ l, 0 ≤ x ∧ x < (k : Int)) → (∀ j, j < k → m.testBit j = decide ((j : Int) ∈ l)) → bitsBelow m k = l
  | 0, l, m, _, hr, _ => by
    cases l with
    | nil => rfl
    | cons x l => have := hr x (by simp); omega
  | k + 1, l, m, ha, hr, hb => by
    by_cases hk : (k : Int) ∈ l
    · obtain ⟨l', hl'⟩ : ∃ l', l = l' ++ [(k : Int)] := by
        rcases List.eq_nil_or_concat l with e | ⟨l', x, e⟩
        · rw [e] at hk; cases hk
        · rw [List.concat_eq_append] at e
          subst e
          refine ⟨l', ?_⟩
          obtain ⟨_, h2⟩ := asc_pre l' x ha
          rcases List.mem_append.1 hk with h | h
          · have := h2 _ h; have := hr x (by simp); omega
          · rw [List.mem_singleton.1 h]
      subst hl'
      obtain ⟨h1, h2⟩ := asc_pre l' _ ha
      rw [bitsBelow_yes (by rw [hb k (by omega)]; simp), asc_bits k l' m h1 (fun x hx => ⟨(hr x (by simp [hx])).1, h2 x hx⟩) fun j hj => by
        rw [hb j (by omega)]; rw [decide_eq_decide]; simp; omega]
    · rw [bitsBelow_no (by rw [hb k (by omega)]; simpa using hk)]
      refine asc_bits k l m ha (fun x hx => ?_) fun j hj => hb j (by omega)
      have h1 := hr x hx
      have : x ≠ (k : Int) := fun e => hk (e ▸ hx)
      omega
open Classical in
theorem directF_direct {bs : List Blk} (hp : pitOk bs = true) : directF bs = true ↔ Direct bs := by
  constructor
  · intro h i j k hi hj hk h1 h2
    unfold directF at h
    rw [hp, Bool.true_and] at h
    have hd := of_decide_eq_true h i hi
    simp only [needsB, hasZ, decide_eq_true_eq] at h1 h2 ⊢
    obtain ⟨p, hp1, e1⟩ := List.getElem_of_mem h1
    obtain ⟨q, hq1, e2⟩ := List.getElem_of_mem h2
    have e3 : (nth (nth bs i).needs p) = (j : Int) := by rw [nth_eq hp1, e1]
    have := hd p hp1 q (by rw [e3]; exact hq1)
    rw [e3, Int.toNat_natCast, nth_eq hq1, e2] at this
    simpa [hasZ] using this
  · intro h
    refine directF_yes hp fun k hk j hj i hi => ?_
    obtain ⟨y, hy, hyk⟩ := pitOk_need hp hk hj
    rw [hy, Int.toNat_natCast] at hi ⊢
    obtain ⟨z, hz, hzy⟩ := pitOk_need hp (show y < bs.length by omega) hi
    rw [hz]
    have n1 : needsB bs k y = true := by unfold needsB hasZ; rw [decide_eq_true_eq, ← hy]; exact nth_mem hj
    have n2 : needsB bs y z = true := by unfold needsB hasZ; rw [decide_eq_true_eq, ← hz]; exact nth_mem hi
    exact h k y z hk (by omega) (by omega) n1 n2
theorem full_isDirect {bs : List Blk} (hp : pitOk bs = true) : directF (fullF bs) = true := by
  rw [directF_direct (fullF_ok hp).1]
  unfold fullF; rw [if_pos hp]; exact full_direct hp
theorem full_same {bs : List Blk} (hp : pitOk bs = true) : decide (fullF bs = bs) = directF bs := by
  rw [Bool.eq_iff_iff, decide_eq_true_eq]
  constructor
  · intro e; rw [← e]; exact full_isDirect hp
  · intro h
    rw [directF_direct hp] at h
    have eF : fullF bs = fullN bs bs.length := by unfold fullF; rw [if_pos hp]
    rw [eF]
    refine ext_nth (by rw [fullN_len]) fun k hk => ?_
    rw [fullN_len] at hk
    rw [nth_fullN hk]
    have hb := pitOk_blk hp hk
    simp only [blkOk, Bool.and_eq_true] at hb
    have hn : bitsBelow (closeOf bs (2 ^ k)) k = (nth bs k).needs := by
      refine asc_bits k _ _ hb.2 (fun x hx => ?_) fun j hj => ?_
      · have := List.all_eq_true.1 hb.1.2 x hx
        simpa [isIdx] using this
      · show _ = needsB bs k j
        rw [Bool.eq_iff_iff]
        constructor
        · intro hc
          have := closeOf_least hp (m := 2 ^ k) (S := fun q => decide (q = k) || needsB bs k q) (fun q hq => by
            rw [Nat.testBit_two_pow] at hq
            have : k = q := by simpa using hq
            simp [← this]) (fun p q hpp h1 h2 => by
            have hq := need_lt hp hpp h2
            simp only [Bool.or_eq_true, decide_eq_true_eq] at h1 ⊢
            rcases h1 with h1 | h1
            · right; rw [← h1]; exact h2
            · right; exact h k p q hk hpp (by omega) h1 h2) j hc
          simp only [Bool.or_eq_true, decide_eq_true_eq] at this
          rcases this with e | e
          · omega
          · exact e
        · intro hn
          exact closeOf_closed hp _ k j hk (by omega) (closeOf_sub hp (by simp)) hn
    unfold fullB
    rw [hn]

set_option maxHeartbeats 1000000 in
theorem drawPitDirect_any (a : Option Addr) (n c : Nat) (w : World) (hc : n ≤ c) (hn : n ≤ 1048576) (hb : Bytes w a n) : Calls Tryd.prog 49 #[.slice a n c] w (DrawnPit w) := by
  go_enter Tryd.func49, Tryd.ntmps49
  go_wp2_with fail
  refine (l20Open_any a n c w hc hn hb).mono ?_
  rintro e w1 ⟨n', c', rfl, hr, b1⟩
  go_wp2_with fail
  refine (l20Pit_any w.heap.size a n' c' 0 9 w1 hr (by omega) (by omega) (by omega)).mono ?_
  rintro e w2 ⟨bs, A, C, p', rfl, h9, hC, ⟨g, rfl⟩, hp, r2, _, hu⟩
  have hb2 : Below w.heap.size w w2 := b1.trans ((hu.mono (by have := b1.size; omega)).below (Nat.le_refl _))
  clear hu hr
  go_wp2_with fail
  refine (pick_up _ _ _ _ _ _ w2 r2 (by omega) (by omega)).mono ?_
  rintro e w3 ⟨x, rfl, hx1, _, r3, u3⟩
  have hp3 := hp w3 (u3 _)
  have hb3 : Below w.heap.size w w3 := hb2.trans ((u3 w.heap.size).below (Nat.le_refl _))
  clear hx1 u3 r3 hp r2 hb2
  by_cases hx : x = 0
  · subst hx
    cases hv : pitOk bs
    · go_wp2_with fail
      refine (toB (spitValid_any _ _ _ _ (by omega) hp3)).mono ?_
      rintro e w4 ⟨rfl, b4⟩
      rw [hv]
      go_wp2_with fail
      go_ret
      exact ⟨bs, g, C, rfl, h9, hC, hp3.below b4, hb3.trans (b4.mono hb3.size)⟩
    · go_wp2_with fail
      refine (toB (spitValid_any _ _ _ _ (by omega) hp3)).mono ?_
      rintro e w4 ⟨rfl, b4⟩
      rw [hv]
      replace hp3 := hp3.below b4
      replace hb3 := hb3.trans (b4.mono hb3.size)
      go_wp2_with fail
      refine (sFull_any _ _ _ _ (by omega) hp3).mono ?_
      rintro e w5 ⟨g5, C5, rfl, hC5, hp5, b5⟩
      have h95 := fullF_len bs h9
      go_wp2_with fail
      go_ret
      exact ⟨fullF bs, g5, C5, rfl, h95, hC5, hp5, hb3.trans (b5.mono hb3.size)⟩
  · have hx2 : ((x : Int) == 0) = false := by simp; omega
    have hx3 : ¬ (x : Int) = 0 := by omega
    go_wp2_with fail
    go_ret
    exact ⟨bs, g, C, rfl, h9, hC, hp3, hb3⟩

set_option maxRecDepth 100000 in
set_option maxHeartbeats 1000000 in
theorem lawPitDirect (a : Option Addr) (n c : Nat) (w : World) (hc : n ≤ c) (hn : n ≤ 9223372036854775807) (hb : n ≤ 1048576 → Bytes w a n) (hpw : Pow w) :
    Calls Tryd.prog 11 #[.slice a n c] w fun e w' => e = .returned (.bool true) ∧ Below w.heap.size w w' := by
  by_cases hbig : 1048576 < n
  · go_enter Tryd.func11, Tryd.ntmps11
    go_wp2_with fail
    go_ret
    exact ⟨rfl, (by repeat (first | with_reducible assumption | exact Below.refl _ _ | refine below_drewN ?_ _ | refine Below.drew ?_ | refine Below.alloc ?_ (by first | omega | (simp; done) | (simp; omega)) _ | refine Below.setCell ?_ (by first | omega | (simp; done) | (simp; omega)) _))⟩
  replace hb := hb (by omega)
  go_enter Tryd.func11, Tryd.ntmps11
  go_wp2_with fail
  refine (drawPitDirect_any a n c w hc (by omega) hb).mono ?_
  rintro e w1 ⟨bs, g, C, rfl, h9, hC, hp, hbt⟩
  clear hb
  go_wp2_with fail
  refine (pitDirect_any _ _ bs _ (by omega) hp).mono ?_
  rintro e w2 ⟨rfl, bN⟩
  replace hp := hp.below bN
  replace hbt := hbt.trans (bN.mono hbt.size)
  clear bN
  go_wp2_with fail
  refine (toB (sDirect_any _ _ bs _ (by omega) hp)).mono ?_
  rintro e w2 ⟨rfl, bN⟩
  replace hp := hp.below bN
  replace hbt := hbt.trans (bN.mono hbt.size)
  clear bN
  have hdd : (directF bs != directF bs) = false := by simp
  cases hok : pitOk bs
  · have e1 := directF_bad hok
    rw [e1]
    clear e1 hdd
    go_wp2_with fail
    refine (toB (spitValid_any _ _ bs _ (by omega) hp)).mono ?_
    rintro e w2 ⟨rfl, bN⟩
    replace hp := hp.below bN
    replace hbt := hbt.trans (bN.mono hbt.size)
    clear bN
    rw [hok]
    go_wp2_with fail
    refine (alive_any _ (hpw.below hbt)).mono ?_
    rintro e w2 ⟨rfl, bN⟩
    replace hp := hp.below bN
    replace hbt := hbt.trans (bN.mono hbt.size)
    clear bN
    go_wp2_with fail
    go_ret
    exact ⟨rfl, hbt⟩
  have hF9 := fullF_len bs h9
  have HD := Lib.hid (full_isDirect hok)
  have HS := Lib.hid (full_same hok)
  obtain ⟨dd, hddd⟩ : ∃ d, directF bs = d := ⟨_, rfl⟩
  rw [hddd] at HS hdd ⊢
  clear hddd
  have hde : (dd == dd) = true := by simp
  go_wp2_with fail
  refine (toB (spitValid_any _ _ bs _ (by omega) hp)).mono ?_
  rintro e w2 ⟨rfl, bN⟩
  replace hp := hp.below bN
  replace hbt := hbt.trans (bN.mono hbt.size)
  clear bN
  rw [hok]
  go_wp2_with fail
  refine (pitFull_all _ _ bs _ (by omega) hp).mono ?_
  rintro e w2 ⟨aF, CF, rfl, hCF, hpF, bN⟩
  replace hp := hp.below bN
  replace hbt := hbt.trans (bN.mono hbt.size)
  clear bN
  go_wp2_with fail
  refine (pitDirect_any _ _ (fullF bs) _ (by omega) hpF).mono ?_
  rintro e w2 ⟨rfl, bN⟩
  rw [HD.out]
  replace hp := hp.below bN
  replace hpF := hpF.below bN
  replace hbt := hbt.trans (bN.mono hbt.size)
  clear bN
  go_wp2_with fail
  refine (toB (samePit_any _ _ _ _ _ _ _ (by omega) (by omega) hpF hp)).mono ?_
  rintro e w2 ⟨rfl, bN⟩
  rw [HS.out]
  replace hbt := hbt.trans (bN.mono hbt.size)
  clear bN
  go_wp2_with fail
  go_ret
  exact ⟨by simp, hbt⟩
end Go.Proofs.YtnjpifaphmeepaaDoor
