/- Walks: slices.Clone of numbers; PitRaise of impl and of spec. -/
import Derived.Test.YtnjpifaphmeepaaDoorW11
import Derived.Test.YtnjpifaphmeepaaDoorW10
import Derived.Deep.RegionLaw
namespace Go.Proofs.YtnjpifaphmeepaaDoor
open Go Go.RowKit

theorem Ints.cellsA {w : World} {ad : Addr} {xs : List Int} (h : Ints w (some ad) xs) : ∀ j u, (xs.map (Value.int .i64))[j]? = some u → w.cell? (ad.add j) = some u := by
  intro j u hj
  have hlt : j < xs.length := by
    have := (List.getElem?_eq_some_iff.1 hj).1; simpa using this
  obtain ⟨b', off, e, _, hc⟩ := Ints.at h hlt
  cases e
  rw [Addr.add_lit, hc j hlt]
  rw [List.getElem?_map, getElem?_nth hlt] at hj
  simpa using hj
theorem appIntsA {w : World} {ops : Array Oper} {rest : List Oper} {o : Oper} {a : Act} {Q : Exit → Act → World → Prop} (s x : Operand) (hw : Region.wanted o (yielded ops a.tmps) = true)
    (hop : o.op = .call { callee := .builtin .append, args := #[s, x], argTypes := #[26, 26] }) (B : Nat) (v : Value) (xs ys : List Int) (ad : Addr) (c : Nat) (hs : a.eval s = v)
    (hown : OwnZ w B v xs) (hx : a.eval x = .slice (some ad) ys.length c) (hy : Ints w (some ad) ys) (hl : xs.length ≤ 2097152) (hl2 : ys.length ≤ 2097152) (hB : B ≤ w.heap.size)
    (hK : ∀ v' w', OwnZ w' B v' (xs ++ ys) → Below B w w' → (v' = .slice none 0 0 ↔ v = .slice none 0 0 ∧ ys.length = 0) → wpList Tryd.prog ops Q rest (a.put o.dst v') w') : wpList Tryd.prog ops Q (o :: rest) a w := by
  refine BigFrame.wpList_want hw fun K hK' => ?_
  obtain ⟨i0, hi, hz0, hz1, hz2⟩ := info_parts infoInt
  obtain ⟨v', w', hr, h2, h3, h4, h5⟩ := run_append_own_at (P := Tryd.prog) w B 26 o.type 3 i0 (.int .i64 0) 1 8 Tryd.underlying26 hi hz0 hz1 hz2 rfl (by decide) v xs.length _ hown ad ys.length c (ys.map (Value.int .i64)) (by simp) hy.cellsA
    (by intro u hu; obtain ⟨y, _, rfl⟩ := List.mem_map.1 hu; rfl) (by unfold maxLen; omega) (by omega) hB
  unfold Oper.wp execOp
  simp only [hop, resolve, invoke, builtin, Sem.run_bind, Sem.run_pure, Result.andThen_ok, List.map_toArray, List.map_cons, List.map_nil, hs, hx, hr]
  exact hK' _ _ (hK v' w' (by unfold OwnZ; rw [List.length_append, List.map_append]; exact h2) (grown_below h3 hB fun k hk => (hown.lt k hk).1) h4)

theorem cloneInts_any (a : Option Addr) (xs : List Int) (c : Nat) (w : World) (hl : xs.length ≤ 1048576) (hs : Ints w a xs) :
    Calls Tryd.prog 80 #[.slice a xs.length c] w fun e w' => ∃ a' c', e = .returned (.slice a' xs.length c') ∧ OwnZ w' w.heap.size (.slice a' xs.length c') xs ∧ Below w.heap.size w w' := by
  cases a with
  | none =>
    have hx : xs = [] := by
      rcases hs with e | ⟨b, off, e, _⟩
      · exact e
      · cases e
    subst hx
    show Calls Tryd.prog 80 #[.slice none 0 c] w _
    have hnil := fun (w : World) => Lib.run_eql_slice_nil (P := Tryd.prog) w 26 3 none 0 c 0 0 Tryd.underlying26
    go_enter Tryd.func80, Tryd.ntmps80
    go_wp2_with fail
    go_ret
    exact ⟨none, 0, rfl, OwnZ.nil _ _, Below.refl _ _⟩
  | some ad =>
    have hnil := fun (w : World) => Lib.run_eql_slice_nil (P := Tryd.prog) w 26 3 (some ad) xs.length c 0 0 Tryd.underlying26
    go_enter Tryd.func80, Tryd.ntmps80
    go_wp2_with (at_builtin; (refine appIntsA _ _ (by rfl) rfl w.heap.size (.slice (some ⟨w.heap.size, 0, none⟩) 0 0) [] xs ad c rfl (OwnZ.lit w _ (Nat.le_refl _)) rfl (hs.alloc _) (by simp) (by omega) (by simp) ?_; intro v' w4 ho4 b4 hn4; rw [List.nil_append] at ho4; obtain ⟨g4, C4, rfl, _, _, _⟩ := ho4.form (fun e => by have := (hn4.1 e).1; cases this)))
    go_ret
    exact ⟨_, C4, rfl, ho4, ((Below.refl _ _).alloc (Nat.le_refl _) _).trans b4⟩

/-! ### raised pits -/
def raiseB (by_ : Int) (b : Blk) : Blk := ⟨min (b.worth + by_) 20, b.needs⟩
def raiseL (bs : List Blk) (by_ : Int) : List Blk := bs.map (raiseB by_)
def raiseOk (bs : List Blk) (by_ : Int) : Bool := pitOk bs && decide (0 ≤ by_) && decide (by_ ≤ 20)
def raiseF (bs : List Blk) (by_ : Int) : List Blk := if raiseOk bs by_ then raiseL bs by_ else []
def PitOut2 (F : List Blk) (w : World) (e : Ending) (w' : World) : Prop := ∃ a C, e = .returned (.slice a F.length C) ∧ F.length ≤ C ∧ Pit w' a F ∧ Below w.heap.size w w'

theorem raiseOk_of {bs : List Blk} {x : Int} (h : raiseOk bs x = true) : pitOk bs = true ∧ 0 ≤ x ∧ x ≤ 20 := by
  simp only [raiseOk, Bool.and_eq_true, decide_eq_true_eq] at h; exact ⟨h.1.1, h.1.2, h.2⟩

set_option maxRecDepth 100000 in
set_option maxHeartbeats 2000000 in
theorem pitRaise_any (a : Option Addr) (c : Nat) (bs : List Blk) (x : Int) (w : World) (hl : bs.length ≤ 1048576) (hs : Pit w a bs) :
    Calls Tryd.prog 55 #[.slice a bs.length c, .int .i64 x] w (PitOut2 (raiseF bs x) w) := by
  cases hv : raiseOk bs x
  · have HE : Hid (raiseF bs x = []) := by show _ = _; simp [raiseF, hv]
    cases hp : pitOk bs
    · go_enter Tryd.func55, Tryd.ntmps55
      go_wp2_with (go_at_call 18; refine (pitValid_any _ _ _ _ hl hs).mono ?_; rintro e w' ⟨rfl, hb⟩)
      go_ret
      exact ⟨none, 0, by rw [HE.out]; rfl, by rw [HE.out]; simp, by rw [HE.out]; exact .inl rfl, hb⟩
    · by_cases h0 : x < 0
      · have h0' : decide (x < 0) = true := by simpa using h0
        go_enter Tryd.func55, Tryd.ntmps55
        go_wp2_with (go_at_call 18; refine (pitValid_any _ _ _ _ hl hs).mono ?_; rintro e w' ⟨rfl, hb⟩)
        go_ret
        exact ⟨none, 0, by rw [HE.out]; rfl, by rw [HE.out]; simp, by rw [HE.out]; exact .inl rfl, hb⟩
      · have h0' : decide (x < 0) = false := by simpa using h0
        have h1 : 20 < x := by simp [raiseOk, hp] at hv; omega
        have h1' : decide (20 < x) = true := by simpa using h1
        go_enter Tryd.func55, Tryd.ntmps55
        go_wp2_with (go_at_call 18; refine (pitValid_any _ _ _ _ hl hs).mono ?_; rintro e w' ⟨rfl, hb⟩)
        go_ret
        exact ⟨none, 0, by rw [HE.out]; rfl, by rw [HE.out]; simp, by rw [HE.out]; exact .inl rfl, hb⟩
  obtain ⟨hp, hx0, hx1⟩ := raiseOk_of hv
  have hl8 := pitOk_len hp
  have HE : Hid (raiseF bs x = raiseL bs x) := by show _ = _; simp [raiseF, hv]
  have hmk := mkBlkRow bs.length (by omega)
  have h0' : decide (x < 0) = false := by simpa using hx0
  have h1' : decide (20 < x) = false := by simpa using hx1
  go_enter Tryd.func55, Tryd.ntmps55
  go_wp2_with (go_at_call 18; refine (pitValid_any _ _ _ _ (by omega) hs).mono ?_; rintro e w1 ⟨rfl, hb1⟩)
  clear hmk h0' h1'
  obtain ⟨W0, hW0⟩ : ∃ W0, W0 = w1.alloc (.cells (madeCells #[.int .i64 0, .slice none 0 0] (bs.length * 2)) 28) := ⟨_, rfl⟩
  have hB0 : BRow W0 w1.heap.size bs.length (fun _ => ⟨0, [], none, 0⟩) := by rw [hW0]; exact BRow.made _ _
  have hb0 : Below w.heap.size w W0 := by rw [hW0]; exact hb1.alloc hb1.size _
  rw [← hW0]
  have hz1 := hb1.size
  clear hW0 hb1
  generalize w1.heap.size = G at hB0 hz1 ⊢
  go_loopw [24] (fun i wr => ∃ (k : Nat) (f : Nat → PB), k ≤ bs.length ∧ i = .int .i64 k ∧ BRow wr G bs.length f ∧ Hid (∀ j, j < k → (f j).blk = raiseB x (nth bs j)) ∧ Below w.heap.size w wr) (fun i _ => bs.length - (intOf i).toNat)
  case atStart => exact ⟨0, _, by omega, rfl, hB0, fun j hj => by omega, hb0⟩
  case round =>
    clear hB0 hb0
    obtain ⟨k, f, hk, rfl, hB, HF, hb⟩ := hrel
    by_cases hlt : k < bs.length
    · obtain ⟨b, off, A, C, rfl, hbw, h1, h2, h3, h4, h5, h6⟩ := Pit.at (hs.below hb) hlt
      obtain ⟨hw1, hw2⟩ := pitOk_worth hp hlt
      go_wp2_with fail
      obtain ⟨X, hX⟩ : ∃ X, wr.heap.size = X := ⟨_, rfl⟩
      obtain ⟨W, hW⟩ : ∃ W, W = wr.alloc (.cells #[.int .i64 (nth bs k).worth, .slice A (nth bs k).needs.length C] 28) := ⟨_, rfl⟩
      have bW : Below wr.heap.size wr W := by rw [hW]; exact (by repeat (first | with_reducible assumption | exact Below.refl _ _ | refine below_drewN ?_ _ | refine Below.drew ?_ | refine Below.alloc ?_ (by first | omega | (simp; done) | (simp; omega)) _ | refine Below.setCell ?_ (by first | omega | (simp; done) | (simp; omega)) _))
      have x1 : W.cell? ⟨X, 0, none⟩ = some (.int .i64 (nth bs k).worth) := by rw [hW, ← hX]; simp
      have x2 : W.cell? ⟨X, 1, none⟩ = some (.slice A (nth bs k).needs.length C) := by rw [hW, ← hX]; simp
      rw [hX, ← hW]
      have h6W := h6.below bW
      have hzX : X < W.heap.size := by rw [hW]; simp; omega
      have hbW := hb.trans (bW.mono hb.size)
      replace hB := hB.below bW
      have HB : Hid ((nth bs k).needs = (nth bs k).needs ∧ raiseB x (nth bs k) = ⟨min ((nth bs k).worth + x) 20, (nth bs k).needs⟩) := ⟨rfl, rfl⟩
      clear hW bW h1 h2 h4 h5 h6
      generalize (nth bs k).worth = wk at x1 hw1 hw2 HB
      obtain ⟨N, hN⟩ : ∃ N, (nth bs k).needs = N := ⟨_, rfl⟩
      rw [hN] at x2 h6W h3 HB
      have HN := Lib.hid hN
      clear hN
      have hI1 : (k : Int) < (bs.length : Int) := by omega
      have hI2 : IntKind.i64.wrap (wk + x) = wk + x := IntWalk.i64_in _ (by omega)
      go_region_with (go_at_call 80; refine (cloneInts_any _ N _ _ h3 (h6W.below (by repeat (first | exact Below.refl _ _ | refine Below.drew ?_)))).mono ?_; rintro e w5 ⟨a5, c5, rfl, ho5, b5⟩; have b25 : Below W.heap.size W w5 := Below.trans (by repeat (first | exact Below.refl _ _ | refine Below.drew ?_)) (b5.mono (by simp)); have y1 := (b25.cell (p := ⟨X, 0, none⟩) (by show X < _; omega)).trans x1; have hB5 := hB.below b25; have f5 := fun i => hB5.frozen i; obtain ⟨c6, c7⟩ := hB5.cell hlt; clear b5)
      all_goals
        have okx : PB.Ok w5 ⟨min (wk + x) 20, N, a5, c5⟩ := by
          obtain ⟨a', c', e', hc', hi'⟩ := ho5.ints
          injection e' with e1 e2 e3
          subst e1 e3
          exact ⟨h3, hc', OwnZ.cap ho5, hi'⟩
        have hfar : ∀ b o, 0 < N.length → a5 = some ⟨b, o, none⟩ → b ≠ G := fun b o _ e eg => by
          subst e
          have h1 := OwnZ.far ho5
          have h2 := hB.lt
          simp at h1; omega
        have hset := hB5.set (i := k) ⟨min (wk + x) 20, N, a5, c5⟩ okx hfar
        have hb5 : Below w.heap.size w ((w5.setCell ⟨G, k * 2, none⟩ (.int .i64 (min (wk + x) 20))).setCell ⟨G, k * 2 + 1, none⟩ (.slice a5 N.length c5)) :=
          ((hbW.trans (b25.mono hbW.size)).setCell (by show _ ≤ G; exact hz1) _).setCell (by show _ ≤ G; exact hz1) _
        have HNF : Hid (∀ j, j < k + 1 → (if j = k then (⟨min (wk + x) 20, N, a5, c5⟩ : PB) else f j).blk = raiseB x (nth bs j)) := by
          intro j hj
          by_cases e : j = k
          · rw [if_pos e, e, HB.out.2]; rfl
          · rw [if_neg e]; exact HF.out j (by omega)
        clear okx hfar y1 hB5 f5 c6 c7 ho5 b25 hB hbW x1 x2
        go_wp2_with fail
        go_roundw
        case rel => exact ⟨k + 1, _, by omega, by go_num, by first | exact hset | exact hset.below (by repeat (first | exact Below.refl _ _ | refine Below.drew ?_)), HNF, by repeat (first | exact hb5 | refine Below.drew ?_)⟩
        case measure => simp [intOf] <;> omega
    · have hkk : k = bs.length := by omega
      have hpit := hB.pit
      have hfull : (List.range bs.length).map (fun i => (f i).blk) = raiseF bs x := by
        rw [HE.out]
        refine ext_nth (by simp [raiseL]) fun i hi => ?_
        simp only [List.length_map, List.length_range] at hi
        have e1 : nth ((List.range bs.length).map fun i => (f i).blk) i = (f i).blk := by simp [nth, hi]
        rw [e1, HF.out i (by omega)]
        exact (nth_map hi).symm
      rw [hfull] at hpit
      have hlen : bs.length = (raiseF bs x).length := by rw [HE.out]; simp [raiseL]
      have HLN := Lib.hid hlen
      clear hfull hkk hlen
      go_wp2_with fail
      go_ret
      exact ⟨some ⟨G, 0, none⟩, bs.length, by rw [← HLN.out]; rfl, by rw [← HLN.out]; exact Nat.le_refl _, hpit, hb⟩

end Go.Proofs.YtnjpifaphmeepaaDoor
