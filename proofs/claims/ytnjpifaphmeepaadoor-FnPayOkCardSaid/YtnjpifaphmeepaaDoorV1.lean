/- The law FnPitValid, walked. -/
import Derived.Test.YtnjpifaphmeepaaDoorT1
import Derived.Test.YtnjpifaphmeepaaDoorD2
import Derived.Test.YtnjpifaphmeepaaDoorS1
namespace Go.Proofs.YtnjpifaphmeepaaDoor
open Go Go.RowKit

/-- a drawn pit: what the draws for pits give -/
def DrawnPit (w : World) (e : Ending) (w' : World) : Prop :=
  ∃ (bs : List Blk) (g C : Nat), e = .returned (.slice (some ⟨g, 0, none⟩) bs.length C) ∧ bs.length ≤ 9 ∧ bs.length ≤ C ∧ Pit w' (some ⟨g, 0, none⟩) bs ∧ Below w.heap.size w w'

theorem drawPitValid_any (a : Option Addr) (n c : Nat) (w : World) (hc : n ≤ c) (hn : n ≤ 1048576) (hb : Bytes w a n) : Calls Tryd.prog 17 #[.slice a n c] w (DrawnPit w) := by
  go_enter Tryd.func17, Tryd.ntmps17
  go_wp2_with fail
  refine (l20Open_any a n c w hc hn hb).mono ?_
  rintro e w1 ⟨n', c', rfl, hr, b1⟩
  go_wp2_with fail
  refine (l20Pit_any w.heap.size a n' c' 0 2 w1 hr (by omega) (by omega) (by omega)).mono ?_
  rintro e w2 ⟨bs, A, C, p', rfl, h9, hC, ⟨g, rfl⟩, hp, _, _, hu⟩
  have hp2 := hp w2 (Upto.refl _ _ _)
  have hb2 : Below w.heap.size w w2 := b1.trans ((hu.mono (by have := b1.size; omega)).below (Nat.le_refl _))
  clear hp hu hr
  go_wp2_with fail
  go_ret
  exact ⟨bs, g, C, rfl, h9, hC, hp2, hb2⟩

theorem pitOk_take {bs : List Blk} (h : pitOk bs = true) (n : Nat) : pitOk (bs.take n) = true := by
  have key : ∀ (l : List Blk) (i n : Nat), blksOk i l = true → blksOk i (l.take n) = true := by
    intro l
    induction l with
    | nil => intro i n _; simp [blksOk]
    | cons b l ih =>
      intro i n h
      cases n with
      | zero => rfl
      | succ n =>
        simp only [blksOk, Bool.and_eq_true] at h
        simp only [List.take_succ_cons, blksOk, Bool.and_eq_true]
        exact ⟨h.1, ih (i + 1) n h.2⟩
  simp only [pitOk, Bool.and_eq_true, decide_eq_true_eq] at h ⊢
  exact ⟨by simp; omega, key bs 0 n h.2⟩
theorem blksOk_append : ∀ (l r : List Blk) (i : Nat), blksOk i (l ++ r) = (blksOk i l && blksOk (i + l.length) r)
  | [], r, i => by simp [blksOk]
  | b :: l, r, i => by
    simp only [List.cons_append, blksOk, blksOk_append l r (i + 1), List.length_cons, Bool.and_assoc]
    rw [show i + 1 + l.length = i + (l.length + 1) by omega]
theorem pitOk_self (bs : List Blk) : pitOk (bs ++ [⟨0, [(bs.length : Int)]⟩]) = false := by
  have : blksOk (0 + bs.length) [⟨0, [(bs.length : Int)]⟩] = false := by simp [blksOk, blkOk, areIdx, isIdx]
  simp only [pitOk, blksOk_append, this, Bool.and_false]

theorem Pit.take {w : World} {a : Option Addr} {bs : List Blk} (h : Pit w a bs) (n : Nat) : Pit w a (bs.take n) := by
  rcases h with e | ⟨b, off, e, hb, h⟩
  · exact .inl (by rw [e]; simp)
  · refine .inr ⟨b, off, e, hb, fun k hk => ?_⟩
    have hk2 := hk
    rw [List.length_take] at hk2
    rw [nth_take (by omega)]
    exact h k (by omega)
theorem nil_ok : pitOk [] = true := by decide

set_option maxRecDepth 100000 in
set_option maxHeartbeats 1000000 in
theorem lawPitValid (a : Option Addr) (n c : Nat) (w : World) (hc : n ≤ c) (hn : n ≤ 9223372036854775807) (hb : n ≤ 1048576 → Bytes w a n) (hpw : Pow w) :
    Calls Tryd.prog 3 #[.slice a n c] w fun e w' => e = .returned (.bool true) ∧ Below w.heap.size w w' := by
  by_cases hbig : 1048576 < n
  · go_enter Tryd.func3, Tryd.ntmps3
    go_wp2_with fail
    go_ret
    exact ⟨rfl, (by repeat (first | with_reducible assumption | exact Below.refl _ _ | refine below_drewN ?_ _ | refine Below.drew ?_ | refine Below.alloc ?_ (by first | omega | (simp; done) | (simp; omega)) _ | refine Below.setCell ?_ (by first | omega | (simp; done) | (simp; omega)) _))⟩
  replace hb := hb (by omega)
  go_enter Tryd.func3, Tryd.ntmps3
  go_wp2_with fail
  refine (drawPitValid_any a n c w hc (by omega) hb).mono ?_
  rintro e w1 ⟨bs, g, C, rfl, h9, hC, hp, b1⟩
  have pw1 := hpw.below b1
  clear hb
  go_wp2_with fail
  refine (pitValid_any _ C bs w1 (by omega) hp).mono ?_
  rintro e w2 ⟨rfl, b2⟩
  have p2 := hp.below b2
  have pw2 := pw1.below b2
  replace b2 := b1.trans (b2.mono b1.size)
  clear b1 hp pw1
  go_wp2_with fail
  refine (spitValid_any _ C bs w2 (by omega) p2).mono ?_
  rintro e w3 ⟨rfl, q3, rfl⟩
  have b3 := below_drewN b2 q3
  have p3 := p2.drewN q3
  have pw3 := pw2.below (below_drewN (Below.refl _ _) q3)
  obtain ⟨W, hW⟩ : ∃ W, W = w2.drewN q3 := ⟨_, rfl⟩
  rw [← hW] at b3 p3 pw3 ⊢
  clear b2 p2 pw2 hW
  have hself := pitOk_self bs
  have HS := Lib.hid hself
  clear hself
  obtain ⟨ps, hps, rb⟩ := Pit.pbs p3
  have hpl : ps.length = bs.length := by rw [← hps]; simp
  have HPS := Lib.hid hps
  clear hps
  obtain ⟨L2, hL2⟩ : ∃ L2 : List Blk, L2 = bs ++ [⟨0, [(bs.length : Int)]⟩] := ⟨_, rfl⟩
  have hok2 : pitOk L2 = false := by rw [hL2]; exact HS.out
  have hlen2 : L2.length ≤ 1048576 := by rw [hL2]; simp; omega
  have HL2 : Hid (∀ x : PB, x.blk = ⟨0, [(bs.length : Int)]⟩ → (ps ++ [x]).map PB.blk = L2) := by
    intro x hx; rw [List.map_append, HPS.out, hL2]; simp [hx]
  have hpv : ∀ w, Pit w none [] := fun w => .inl rfl
  clear hL2 HS
  cases hv : pitOk bs
  case false =>
    go_wp2_with (first
      | (at_builtin; refine appBlks (.tmp 32) (.tmp 33) (by rfl) rfl W.heap.size (.slice (some ⟨W.heap.size, 0, none⟩) 0 0) [] ps g 0 bs.length C rfl (OwnB.lit W _ (Nat.le_refl _)) rfl hpl (rb.alloc _) (rb.apart (Nat.le_refl _)) (by simp) (by omega) (by simp) ?_; intro v' w4 ho4 b4 hn4 _; obtain ⟨g4, C4, rfl, _, _, hg4, _⟩ := ho4.form (hn4 (by simp)); replace b4 := ((Below.refl _ _).alloc (Nat.le_refl _) _).trans b4; clear hn4 rb p3; replace ho4 : OwnB w4 W.heap.size (.slice (some ⟨g4, 0, none⟩) bs.length C4) ps := (by simpa [hpl] using ho4); have z4 := b4.size; have ok5 : PB.Ok (w4.alloc (.cells #[.int .i64 (bs.length : Int)] 3)) ⟨0, [(bs.length : Int)], some ⟨w4.heap.size, 0, none⟩, 1⟩ := ⟨by simp, by simp, by simp, Ints.one_at _ _ _ rfl⟩)
      | (at_builtin; refine appBlks (.tmp 34) (.tmp 39) (by rfl) rfl W.heap.size (.slice (some ⟨g4, 0, none⟩) bs.length C4) ps [⟨0, [(bs.length : Int)], some ⟨w4.heap.size, 0, none⟩, 1⟩] (w4.heap.size + 1) 0 1 1 rfl ((ho4.alloc _).alloc _) rfl rfl (RdB.one_at _ _ _ ok5 (by simp)) (fun y hy b o h0 e he => by obtain rfl := List.mem_singleton.1 hy; cases e; have he' : g4 = w4.heap.size := Option.some.inj he; omega) (by first | omega | (simp; done) | (simp; omega)) (by first | omega | (simp; done) | (simp; omega)) (by first | omega | (simp; done) | (simp; omega)) ?_; intro v' w5 ho5 b5 hn5 _; obtain ⟨g5, C5, rfl, hc5, p5⟩ := ho5.out (hn5 (by simp)) (HL2.out _ rfl); replace b5 := b4.trans ((((Below.refl _ _).alloc z4 _).alloc (by first | omega | (simp; done) | (simp; omega)) _).trans b5); clear hn5 ho5 ho4 ok5 b4))
    refine (pitValid_any _ C5 L2 w5 hlen2 p5).mono ?_
    rintro e w6 ⟨rfl, b6⟩
    replace b6 := b5.trans (b6.mono b5.size)
    clear b5 p5
    go_wp2_with fail
    refine (pitValid_any none 0 [] w6 (by simp) (hpv _)).mono ?_
    rintro e w7 ⟨rfl, b7⟩
    replace b7 := b6.trans (b7.mono b6.size)
    clear b6
    rw [nil_ok]
    go_wp2_with fail
    refine (alive_any w7 (pw3.below b7)).mono ?_
    rintro e w8 ⟨rfl, b8⟩
    replace b8 := b3.trans ((b7.trans (b8.mono b7.size)).mono b3.size)
    go_wp2_with fail
    go_ret
    exact ⟨rfl, b8⟩
  case true =>
    by_cases h0 : bs.length = 0
    · have h0' : ((bs.length : Int) == 0) = true := by simpa using h0
      have h0'' : bs = [] := List.eq_nil_of_length_eq_zero h0
      have hg0 : decide (bs = []) = true := by simpa using h0''
      clear h0 h0''
      go_wp2_with (first
        | (at_builtin; refine appBlks (.tmp 32) (.tmp 33) (by rfl) rfl W.heap.size (.slice (some ⟨W.heap.size, 0, none⟩) 0 0) [] ps g 0 bs.length C rfl (OwnB.lit W _ (Nat.le_refl _)) rfl hpl (rb.alloc _) (rb.apart (Nat.le_refl _)) (by simp) (by omega) (by simp) ?_; intro v' w4 ho4 b4 hn4 _; obtain ⟨g4, C4, rfl, _, _, hg4, _⟩ := ho4.form (hn4 (by simp)); replace b4 := ((Below.refl _ _).alloc (Nat.le_refl _) _).trans b4; clear hn4 rb p3; replace ho4 : OwnB w4 W.heap.size (.slice (some ⟨g4, 0, none⟩) bs.length C4) ps := (by simpa [hpl] using ho4); have z4 := b4.size; have ok5 : PB.Ok (w4.alloc (.cells #[.int .i64 (bs.length : Int)] 3)) ⟨0, [(bs.length : Int)], some ⟨w4.heap.size, 0, none⟩, 1⟩ := ⟨by simp, by simp, by simp, Ints.one_at _ _ _ rfl⟩)
        | (at_builtin; refine appBlks (.tmp 34) (.tmp 39) (by rfl) rfl W.heap.size (.slice (some ⟨g4, 0, none⟩) bs.length C4) ps [⟨0, [(bs.length : Int)], some ⟨w4.heap.size, 0, none⟩, 1⟩] (w4.heap.size + 1) 0 1 1 rfl ((ho4.alloc _).alloc _) rfl rfl (RdB.one_at _ _ _ ok5 (by simp)) (fun y hy b o h0 e he => by obtain rfl := List.mem_singleton.1 hy; cases e; have he' : g4 = w4.heap.size := Option.some.inj he; omega) (by first | omega | (simp; done) | (simp; omega)) (by first | omega | (simp; done) | (simp; omega)) (by first | omega | (simp; done) | (simp; omega)) ?_; intro v' w5 ho5 b5 hn5 _; obtain ⟨g5, C5, rfl, hc5, p5⟩ := ho5.out (hn5 (by simp)) (HL2.out _ rfl); replace b5 := b4.trans ((((Below.refl _ _).alloc z4 _).alloc (by first | omega | (simp; done) | (simp; omega)) _).trans b5); clear hn5 ho5 ho4 ok5 b4))
      refine (pitValid_any _ C5 L2 w5 hlen2 p5).mono ?_
      rintro e w6 ⟨rfl, b6⟩
      replace b6 := b5.trans (b6.mono b5.size)
      clear b5 p5
      go_wp2_with fail
      refine (pitValid_any none 0 [] w6 (by simp) (hpv _)).mono ?_
      rintro e w7 ⟨rfl, b7⟩
      replace b7 := b6.trans (b7.mono b6.size)
      clear b6
      rw [nil_ok]
      go_wp2_with fail
      refine (alive_any w7 (pw3.below b7)).mono ?_
      rintro e w8 ⟨rfl, b8⟩
      replace b8 := b3.trans ((b7.trans (b8.mono b7.size)).mono b3.size)
      go_wp2_with fail
      go_ret
      exact ⟨rfl, b8⟩
    · have h0' : ((bs.length : Int) == 0) = false := by simpa using h0
      have hg0 : decide (bs = []) = false := by simp; intro e; exact h0 (by rw [e]; rfl)
      have hq := pitValid_any (some ⟨g, 0, none⟩) C (bs.take (bs.length - 1)) W (by simp; omega) (Pit.take p3 _)
      have hqt := pitOk_take hv (bs.length - 1)
      rw [List.length_take, show min (bs.length - 1) bs.length = bs.length - 1 by omega, hqt] at hq
      clear hqt
      go_wp2_with fail
      refine hq.mono ?_
      rintro e V ⟨rfl, bV⟩
      clear hq
      replace rb := rb.below bV
      replace p3 := p3.below bV
      replace pw3 := pw3.below bV
      replace b3 := b3.trans (bV.mono b3.size)
      clear bV
      go_wp2_with (first
        | (at_builtin; refine appBlks (.tmp 32) (.tmp 33) (by rfl) rfl V.heap.size (.slice (some ⟨V.heap.size, 0, none⟩) 0 0) [] ps g 0 bs.length C rfl (OwnB.lit V _ (Nat.le_refl _)) rfl hpl (rb.alloc _) (rb.apart (Nat.le_refl _)) (by simp) (by omega) (by simp) ?_; intro v' w4 ho4 b4 hn4 _; obtain ⟨g4, C4, rfl, _, _, hg4, _⟩ := ho4.form (hn4 (by simp)); replace b4 := ((Below.refl _ _).alloc (Nat.le_refl _) _).trans b4; clear hn4 rb p3; replace ho4 : OwnB w4 V.heap.size (.slice (some ⟨g4, 0, none⟩) bs.length C4) ps := (by simpa [hpl] using ho4); have z4 := b4.size; have ok5 : PB.Ok (w4.alloc (.cells #[.int .i64 (bs.length : Int)] 3)) ⟨0, [(bs.length : Int)], some ⟨w4.heap.size, 0, none⟩, 1⟩ := ⟨by simp, by simp, by simp, Ints.one_at _ _ _ rfl⟩)
        | (at_builtin; refine appBlks (.tmp 34) (.tmp 39) (by rfl) rfl V.heap.size (.slice (some ⟨g4, 0, none⟩) bs.length C4) ps [⟨0, [(bs.length : Int)], some ⟨w4.heap.size, 0, none⟩, 1⟩] (w4.heap.size + 1) 0 1 1 rfl ((ho4.alloc _).alloc _) rfl rfl (RdB.one_at _ _ _ ok5 (by simp)) (fun y hy b o h0 e he => by obtain rfl := List.mem_singleton.1 hy; cases e; have he' : g4 = w4.heap.size := Option.some.inj he; omega) (by first | omega | (simp; done) | (simp; omega)) (by first | omega | (simp; done) | (simp; omega)) (by first | omega | (simp; done) | (simp; omega)) ?_; intro v' w5 ho5 b5 hn5 _; obtain ⟨g5, C5, rfl, hc5, p5⟩ := ho5.out (hn5 (by simp)) (HL2.out _ rfl); replace b5 := b4.trans ((((Below.refl _ _).alloc z4 _).alloc (by first | omega | (simp; done) | (simp; omega)) _).trans b5); clear hn5 ho5 ho4 ok5 b4))
      refine (pitValid_any _ C5 L2 w5 hlen2 p5).mono ?_
      rintro e w6 ⟨rfl, b6⟩
      replace b6 := b5.trans (b6.mono b5.size)
      clear b5 p5
      go_wp2_with fail
      refine (pitValid_any none 0 [] w6 (by simp) (hpv _)).mono ?_
      rintro e w7 ⟨rfl, b7⟩
      replace b7 := b6.trans (b7.mono b6.size)
      clear b6
      rw [nil_ok]
      go_wp2_with fail
      refine (alive_any w7 (pw3.below b7)).mono ?_
      rintro e w8 ⟨rfl, b8⟩
      replace b8 := b3.trans ((b7.trans (b8.mono b7.size)).mono b3.size)
      go_wp2_with fail
      go_ret
      exact ⟨rfl, b8⟩
end Go.Proofs.YtnjpifaphmeepaaDoor
