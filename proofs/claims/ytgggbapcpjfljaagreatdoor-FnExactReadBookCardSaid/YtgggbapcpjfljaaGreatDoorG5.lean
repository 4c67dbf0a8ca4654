/- Walks: slices.Insert and slices.Delete of legs, over a row of the call's own. -/
import Derived.Test.YtgggbapcpjfljaaGreatDoorG3
import Derived.Test.YtgggbapcpjfljaaGreatDoorKrow
import Derived.Lib.Overlaps
import Derived.Lib.SliceRun
import Derived.Shelf.RegionOpenPlain
namespace Go.Proofs.YtgggbapcpjfljaaGreatDoor
open Go Go.RowKit Go.Sort

theorem wpList_run_copy {P : Program} (w : World) {ops : Array Oper} {rest : List Oper} {o : Oper} {a : Act} {Q : Exit → Act → World → Prop} (hgd : o.guard = none) (d s : Operand) (t t' : TypeId)
    (ho : o.op = .call { callee := .builtin .copy, args := #[d, s], argTypes := #[t, t'] }) (v u : Value) (hd : a.eval d = v) (hs : a.eval s = u) {v' : Value} {w' : World}
    (hr : (Builtin.copy_ #[t, t'] o.type #[v, u]).run P w = .ok v' w') (h : wpList P ops Q rest (a.put o.dst v') w') : wpList P ops Q (o :: rest) a w := by
  refine wpList_plain hgd fun K hK => ?_
  unfold Oper.wp execOp
  simp only [ho, resolve, invoke, builtin, Sem.run_bind, Sem.run_pure, Result.andThen_ok, List.map_toArray, List.map_cons, List.map_nil, hd, hs, hr]
  exact hK _ _ h
theorem wpList_run_app {P : Program} (w : World) {ops : Array Oper} {rest : List Oper} {o : Oper} {a : Act} {Q : Exit → Act → World → Prop} (hgd : o.guard = none) (d s : Operand) (t t' : TypeId)
    (ho : o.op = .call { callee := .builtin .append, args := #[d, s], argTypes := #[t, t'] }) (v u : Value) (hd : a.eval d = v) (hs : a.eval s = u) {v' : Value} {w' : World}
    (hr : (Builtin.append_ #[t, t'] o.type #[v, u]).run P w = .ok v' w') (h : wpList P ops Q rest (a.put o.dst v') w') : wpList P ops Q (o :: rest) a w := by
  refine wpList_plain hgd fun K hK => ?_
  unfold Oper.wp execOp
  simp only [ho, resolve, invoke, builtin, Sem.run_bind, Sem.run_pure, Result.andThen_ok, List.map_toArray, List.map_cons, List.map_nil, hd, hs, hr]
  exact hK _ _ h
theorem step_run_copy {P : Program} {ops : Array Oper} {o : Oper} {a : Act} {w : World} {K : Act → World → Prop} {Q : Exit → Act → World → Prop} {E : Prop}
    (hg : o.guard = none) (d x : Operand) (dT sT : TypeId) (hop : o.op = Op.call { callee := Callee.builtin Builtin.copy, args := #[d, x], argTypes := #[dT, sT] })
    (v u : Value) (hd : a.eval d = v) (hx : a.eval x = u) {v' : Value} {w' : World} (hr : (Builtin.copy_ #[dT, sT] o.type #[v, u]).run P w = .ok v' w') (hK : K (a.put o.dst v') w') :
    if Region.wanted o (yielded ops a.tmps) = true then Oper.wp P o a w K Q else E := by
  have hw : Region.wanted o (yielded ops a.tmps) = true := by simp [Region.wanted, hg]
  rw [if_pos hw]
  unfold Oper.wp
  simp [execOp, hop, resolve, invoke, builtin, hd, hx, hr, Result.andThen]
  exact hK

/-- what Insert hands back -/
def InsRet (B : Nat) (a : Option Addr) (w : World) (zs : List Lg) (e : Ending) (w' : World) : Prop := ∃ av cv, e = .returned (.slice av zs.length cv) ∧ OwnL w' B (.slice av zs.length cv) zs ∧ w.grownBy w' (Value.slice a 0 0).ownBlock ∧
  ∀ k, (Value.slice av zs.length cv).ownBlock = some k → (Value.slice a 0 0).ownBlock = some k ∨ w.heap.size ≤ k
theorem ownBlock_slice (a : Option Addr) (n c n' c' : Nat) : (Value.slice a n c).ownBlock = (Value.slice a n' c').ownBlock := by cases a <;> rfl
theorem grown_of_below {w w' : World} {row : Option Nat} (h : Below w.heap.size w w') : w.grownBy w' row := ⟨h.os, h.tape, h.output, h.size, fun k hk _ => h.block k hk⟩
theorem setCells_block {g : Nat} : ∀ (vs : List Value) (o : Nat) (w : World), (w.setCells g o vs).os = w.os ∧ (w.setCells g o vs).tape = w.tape ∧ (w.setCells g o vs).output = w.output ∧ (w.setCells g o vs).heap.size = w.heap.size ∧ ∀ k, k ≠ g → (w.setCells g o vs).heap[k]? = w.heap[k]?
  | [], _, _ => ⟨rfl, rfl, rfl, rfl, fun _ _ => rfl⟩
  | v :: r, o, w => by
    rw [World.setCells]
    obtain ⟨h1, h2, h3, h4, h5⟩ := setCells_block (g := g) r (o + 1) (w.setCell ⟨g, o, none⟩ v)
    exact ⟨h1, h2, h3, by rw [h4]; simp [World.setCell], fun k hk => by rw [h5 k hk]; exact Deep.blk_setCell_other _ _ _ _ hk⟩
theorem grown_setCells {w w' : World} {g : Nat} (h : w.grownBy w' (some g)) (o : Nat) (vs : List Value) : w.grownBy (w'.setCells g o vs) (some g) := by
  obtain ⟨h1, h2, h3, h4, h5⟩ := setCells_block (g := g) vs o w'
  exact ⟨h1.trans h.os, h2.trans h.tape, h3.trans h.output, by rw [h4]; exact h.size, fun k hk hn => (h5 k (fun e => hn (by rw [e]))).trans (h.block k hk hn)⟩
theorem grown_drew {w w' : World} {row : Option Nat} (h : w.grownBy w' row) : w.grownBy w'.drew row := ⟨h.os, h.tape, h.output, h.size, h.block⟩

theorem insertLeg_end (B : Nat) (a : Option Addr) (c : Nat) (xs : List Lg) (x : Lg) (vb : Nat) (w : World) (hown : OwnL w B (.slice a xs.length c) xs) (hl : xs.length ≤ 1048576) (hx : Legs w (some ⟨vb, 0, none⟩) [x]) (hB : B ≤ w.heap.size) :
    Calls Tryz.prog 46 #[.slice a xs.length c, .int .i64 (xs.length : Int), .slice (some ⟨vb, 0, none⟩) 1 1] w (InsRet B a w (xs ++ [x])) := by
  obtain ⟨a', c', e, hle, hm, -⟩ := hown.form
  cases e
  have hc63 : c ≤ 9223372036854775807 := by unfold maxLen at hm; omega
  clear hm
  go_enter Tryz.func46, Tryz.ntmps46
  cases a with
  | none =>
    go_wp2_with (at_builtin; refine wpList_kApp legI _ _ rfl rfl B _ xs [x] _ 1 rfl hown rfl hx (by omega) (by simp) hB ?_; rintro av cv w1 o1 g1 - n1)
    all_goals
      go_ret
      exact ⟨av, cv, by rw [show (xs ++ [x]).length = xs.length + 1 by simp]; rfl, o1, g1, fun k hk => by rcases n1 with n1 | n1 <;> rw [n1] at hk <;> first | exact .inl hk | (cases hk; exact .inr (Nat.le_refl _))⟩
  | some ad =>
    obtain ⟨ab, ao, asp⟩ := ad
    go_wp2_with (at_builtin; refine wpList_kApp legI _ _ rfl rfl B _ xs [x] _ 1 rfl hown rfl hx (by omega) (by simp) hB ?_; rintro av cv w1 o1 g1 - n1)
    all_goals
      go_ret
      exact ⟨av, cv, by rw [show (xs ++ [x]).length = xs.length + 1 by simp]; rfl, o1, g1, fun k hk => by rcases n1 with n1 | n1 <;> rw [n1] at hk <;> first | exact .inl hk | (cases hk; exact .inr (Nat.le_refl _))⟩

theorem nth_ins (xs : List Lg) (i : Nat) (x : Lg) (hi : i ≤ xs.length) (k : Nat) (hk : k < xs.length + 1) : nth (xs.take i ++ x :: xs.drop i) k = if k < i then nth xs k else if k = i then x else nth xs (k - 1) := by
  have hl : (xs.take i).length = i := by simp; omega
  by_cases h1 : k < i
  · rw [if_pos h1, nth_append_left (by omega), nth_take h1]
  · rw [if_neg h1, nth_append_right (by omega), hl]
    by_cases h2 : k = i
    · subst h2; simp [nth]
    · rw [if_neg h2]
      obtain ⟨m, rfl⟩ : ∃ m, k = i + (m + 1) := ⟨k - i - 1, by omega⟩
      rw [show i + (m + 1) - i = m + 1 by omega]
      show nth (xs.drop i) m = _
      rw [nth_drop]; rfl

set_option maxRecDepth 100000 in
set_option maxHeartbeats 1000000 in
theorem insertLeg_room (B g cap : Nat) (xs : List Lg) (x : Lg) (i vb : Nat) (w : World) (hBg : B ≤ g) (hcap : xs.length + 1 ≤ cap) (hcm : cap ≤ maxLen) (hrow : KRow legK 39 w g cap (fun k => if k < xs.length then some (nth xs k) else none)) (hi : i < xs.length) (hl : xs.length ≤ 1048576)
    (hx : KRow legK 39 w vb 1 (fun _ => some x)) (hne : vb ≠ g) :
    Calls Tryz.prog 46 #[.slice (some ⟨g, 0, none⟩) xs.length cap, .int .i64 (i : Int), .slice (some ⟨vb, 0, none⟩) 1 1] w (InsRet B (some ⟨g, 0, none⟩) w (xs.take i ++ x :: xs.drop i)) := by
  have hlen : (xs.take i ++ x :: xs.drop i).length = xs.length + 1 := by simp; omega
  -- the two copies
  have hr1 : Legs w.drew (some ⟨g, i * 5, none⟩) (xs.drop i) := by
    have := hrow.drew.rd i (xs.drop i) (by simp; omega) (fun k hk => by simp at hk; rw [if_pos (by omega), nth_drop])
    exact this
  have hcp1 : (Builtin.copy_ #[22, 22] 3 #[.slice (some ⟨g, (i + 1) * 5, none⟩) (xs.length - i) (cap - (i + 1)), .slice (some ⟨g, i * 5, none⟩) (xs.length + 1 - i) (cap - i)]).run Tryz.prog w.drew = .ok (goInt (xs.drop i).length) (w.drew.setCells g ((i + 1) * legK.sz) (legK.flat (xs.drop i))) := run_kCopy legI _ hrow.drew (i + 1) (xs.length - i) _ (xs.length + 1 - i) _ (xs.drop i) hr1 (by rw [List.length_drop]; show _ = min _ _; omega) (by simp; omega)
  have hrow1 := hrow.drew.put (i + 1) (xs.drop i)
  have hx1 := (hx.drew).setCellsOther (g' := g) hne ((i + 1) * legK.sz) (legK.flat (xs.drop i))
  have bW1 : w.grownBy (w.drew.setCells g ((i + 1) * legK.sz) (legK.flat (xs.drop i))) (some g) := grown_setCells (grown_drew (World.grownBy.refl w _)) _ _
  obtain ⟨W1, hW1⟩ : ∃ W1, W1 = w.drew.setCells g ((i + 1) * legK.sz) (legK.flat (xs.drop i)) := ⟨_, rfl⟩
  rw [← hW1] at hrow1 hx1 bW1
  rw [← hW1] at hcp1
  have hr2 : Legs W1 (some ⟨vb, 0, none⟩) [x] := by
    have := hx1.rd 0 [x] (by simp) (fun k hk => by simp at hk; subst hk; rfl)
    exact this
  have hcp2 : (Builtin.copy_ #[22, 22] 3 #[.slice (some ⟨g, i * 5, none⟩) (xs.length + 1 - i) (cap - i), .slice (some ⟨vb, 0, none⟩) 1 1]).run Tryz.prog W1 = .ok (goInt [x].length) (W1.setCells g (i * legK.sz) (legK.flat [x])) := run_kCopy legI _ hrow1 i (xs.length + 1 - i) _ 1 1 [x] hr2 (by show 1 = min _ _; omega) (by simp; omega)
  have hrow2 := hrow1.put i [x]
  have bW2 : w.grownBy (W1.setCells g (i * legK.sz) (legK.flat [x])) (some g) := grown_setCells bW1 _ _
  obtain ⟨W2, hW2⟩ : ∃ W2, W2 = W1.setCells g (i * legK.sz) (legK.flat [x]) := ⟨_, rfl⟩
  rw [← hW2] at hrow2 bW2
  rw [← hW2] at hcp2
  have hfin : OwnL W2 B (.slice (some ⟨g, 0, none⟩) (xs.take i ++ x :: xs.drop i).length cap) (xs.take i ++ x :: xs.drop i) := by
    refine hrow2.own hBg _ (by omega) hcm fun k hk => ?_
    rw [hlen] at hk
    rw [nth_ins xs i x (by omega) k hk]
    simp only [List.length_cons, List.length_nil, List.length_drop]
    by_cases h1 : k < i
    · rw [if_neg (by omega), if_neg (by omega), if_pos (by omega), if_pos h1]
    · by_cases h2 : k = i
      · subst h2; rw [if_pos (by omega), if_neg h1, if_pos rfl]; simp [nth]
      · rw [if_neg (by omega), if_pos (by omega), if_neg h1, if_neg h2, nth_drop]; congr 2; omega
  have hsz : ∀ w, (Go.sizeOf 39).run Tryz.prog w = .ok 5 w := by
    obtain ⟨i0, hi, hz0, hz1, hz2⟩ := info_parts infoLeg
    intro w; simp [sizeOf, typeInfo, hi, hz1]
  have hov : ∀ lb cb, (callFunc 65 #[.slice (some ⟨vb, 0, none⟩) 1 1, .slice (some ⟨g, (i + 1) * 5, none⟩) lb cb]).run Tryz.prog w = .ok (.value (.bool false)) w := fun lb cb => by
    rw [run_callFunc_extern Tryz.func65 (by kernel_rfl) (by kernel_rfl) (by kernel_rfl) (e := Extern.SlicesOverlaps.overlaps #[22, 22] #[4]) (by kernel_rfl),
      Lib.run_overlaps_apart w 22 4 39 Tryz.underlying22 5 hsz ⟨vb, 0, none⟩ ⟨g, (i + 1) * 5, none⟩ 1 1 lb cb hne _ _ _ _ hx.shape hrow.shape (by have : legK.sz = 5 := rfl; rw [this]; omega) (hx.free _) (hx.free _)]
    rfl
  have hw1 : IntKind.i64.wrap ((i : Int) + 1) = (i : Int) + 1 := by rw [IntKind.wrap_i64]; omega
  have HF := Lib.hid hfin
  have HLN := Lib.hid hlen
  have hc63 : cap ≤ 9223372036854775807 := by unfold maxLen at hcm; omega
  have hz2 : ¬ ((i : Int) = (xs.length : Int)) := by omega
  have hb1 : (0 : Int) ≤ (i : Int) + 1 := by omega
  have htn : ((i : Int) + 1).toNat = i + 1 := by omega
  have hb2 : ¬ (cap = i + 1) := by omega
  have hb3 : (i : Int) ≤ (xs.length : Int) + 1 := by omega
  have hb4 : ¬ (cap = i) := by omega
  have hb5 : i ≤ xs.length := by omega
  clear hrow2 hrow1 hx1 hr1 hr2 hfin hlen hW1 hW2 hcm
  clear hrow hx hne
  go_enter Tryz.func46, Tryz.ntmps46
  go_wp2_with (simp only [hov])
  go_region_law (refine step_run_copy rfl (.tmp 73) (.tmp 76) 22 22 rfl (.slice (some ⟨g, (i + 1) * 5, none⟩) (xs.length - i) (cap - (i + 1))) (.slice (some ⟨g, i * 5, none⟩) (xs.length + 1 - i) (cap - i)) (by simp [Act.eval, Act.put]) (by simp [Act.eval, Act.put]) (by with_reducible exact hcp1) ?_)
  all_goals
    go_wp2_with (at_builtin; refine wpList_run_copy _ rfl (.tmp 80) (.tmp 81) 22 22 rfl _ _ rfl rfl hcp2 ?_)
    go_ret
    exact ⟨_, cap, by rw [HLN.out]; rfl, HF.out, bW2, fun k hk => .inl hk⟩

set_option maxRecDepth 100000 in
set_option maxHeartbeats 1000000 in
theorem insertLeg_grow (B g : Nat) (xs : List Lg) (x : Lg) (i vb : Nat) (w : World) (hB : B ≤ w.heap.size) (_hcm : xs.length ≤ maxLen) (hrow : KRow legK 39 w g xs.length (fun k => if k < xs.length then some (nth xs k) else none)) (hi : i < xs.length) (hl : xs.length ≤ 1048576)
    (hx : KRow legK 39 w vb 1 (fun _ => some x)) :
    Calls Tryz.prog 46 #[.slice (some ⟨g, 0, none⟩) xs.length xs.length, .int .i64 (i : Int), .slice (some ⟨vb, 0, none⟩) 1 1] w (InsRet B (some ⟨g, 0, none⟩) w (xs.take i ++ x :: xs.drop i)) := by
  have hlen : (xs.take i ++ x :: xs.drop i).length = xs.length + 1 := by simp; omega
  have hlt : (xs.take i).length = i := by simp; omega
  obtain ⟨c2, hc2, hm2, w2, hrun, hrow2, bw2⟩ := run_kZeros (kq := .i64) legI (ti := 3) (kn := .i64) Tryz.underlying3 22 hrow i (xs.length + 1 - i) (xs.take i) (by omega) (by omega) hlt (fun k hk => by rw [if_pos (by omega), nth_take hk]) (by omega) (by omega)
  rw [show i + (xs.length + 1 - i) = xs.length + 1 by omega] at hrun hc2
  have ecast : ((xs.length + 1 - i : Nat) : Int) = (xs.length : Int) + 1 - (i : Int) := by omega
  rw [ecast] at hrun
  clear ecast
  obtain ⟨G, hG⟩ : ∃ G, G = w.heap.size := ⟨_, rfl⟩
  rw [← hG] at hrun hrow2
  have hgG : g < G := by rw [hG]; exact hrow.lt
  have hvG : vb < G := by rw [hG]; exact hx.lt
  have hBG : B ≤ G := by omega
  have bW : Below w.heap.size w w2 := bw2
  have hwG : w.heap.size ≤ G := by omega
  have hrow3 := hrow.below bw2
  have hx3 := hx.below bw2
  clear hG bw2 hrow hx
  have hr2 : Legs w2 (some ⟨vb, 0, none⟩) [x] := by
    have := hx3.rd 0 [x] (by simp) (fun k hk => by simp at hk; subst hk; rfl)
    exact this
  have hcp1 : (Builtin.copy_ #[22, 22] 3 #[.slice (some ⟨G, i * 5, none⟩) (xs.length + 1 - i) (c2 - i), .slice (some ⟨vb, 0, none⟩) 1 1]).run Tryz.prog w2 = .ok (goInt [x].length) (w2.setCells G (i * legK.sz) (legK.flat [x])) := run_kCopy legI _ hrow2 i (xs.length + 1 - i) _ 1 1 [x] hr2 (by show 1 = min _ _; omega) (by simp; omega)
  have hrow4 := hrow2.put i [x]
  have hrow5 := hrow3.setCellsOther (g' := G) (by omega) (i * legK.sz) (legK.flat [x])
  have bW1 : Below w.heap.size w (w2.setCells G (i * legK.sz) (legK.flat [x])) := below_setCells G hwG _ _ _ bW
  obtain ⟨W1, hW1⟩ : ∃ W1, W1 = w2.setCells G (i * legK.sz) (legK.flat [x]) := ⟨_, rfl⟩
  rw [← hW1] at hrow4 hrow5 bW1 hcp1
  have hr1 : Legs W1.drew (some ⟨g, i * 5, none⟩) (xs.drop i) := by
    have := hrow5.drew.rd i (xs.drop i) (by simp; omega) (fun k hk => by simp at hk; rw [if_pos (by omega), nth_drop])
    exact this
  have hcp2 : (Builtin.copy_ #[22, 22] 3 #[.slice (some ⟨G, (i + 1) * 5, none⟩) (xs.length - i) (c2 - (i + 1)), .slice (some ⟨g, i * 5, none⟩) (xs.length - i) (xs.length - i)]).run Tryz.prog W1.drew = .ok (goInt (xs.drop i).length) (W1.drew.setCells G ((i + 1) * legK.sz) (legK.flat (xs.drop i))) := run_kCopy legI _ hrow4.drew (i + 1) (xs.length - i) _ (xs.length - i) _ (xs.drop i) hr1 (by rw [List.length_drop]; show _ = min _ _; omega) (by simp; omega)
  have hrow6 := hrow4.drew.put (i + 1) (xs.drop i)
  have bW2 : Below w.heap.size w (W1.drew.setCells G ((i + 1) * legK.sz) (legK.flat (xs.drop i))) := below_setCells G hwG _ _ _ bW1.drew
  obtain ⟨W2, hW2⟩ : ∃ W2, W2 = W1.drew.setCells G ((i + 1) * legK.sz) (legK.flat (xs.drop i)) := ⟨_, rfl⟩
  rw [← hW2] at hrow6 bW2 hcp2
  have hfin : OwnL W2 B (.slice (some ⟨G, 0, none⟩) (xs.take i ++ x :: xs.drop i).length c2) (xs.take i ++ x :: xs.drop i) := by
    refine hrow6.own hBG _ (by omega) hm2 fun k hk => ?_
    rw [hlen] at hk
    rw [nth_ins xs i x (by omega) k hk]
    simp only [List.length_cons, List.length_nil, List.length_drop]
    by_cases h1 : k < i
    · rw [if_neg (by omega), if_neg (by omega), if_pos h1, if_pos h1, nth_take h1]
    · by_cases h2 : k = i
      · subst h2; rw [if_neg (by omega), if_pos (by omega), if_neg h1, if_pos rfl]; simp [nth]
      · rw [if_pos (by omega), if_neg h1, if_neg h2, nth_drop]; congr 2; omega
  have hw1 : IntKind.i64.wrap ((i : Int) + 1) = (i : Int) + 1 := by rw [IntKind.wrap_i64]; omega
  have HF := Lib.hid hfin
  have HLN := Lib.hid hlen
  have hc63 : c2 ≤ 9223372036854775807 := by unfold maxLen at hm2; omega
  have hz2 : ¬ ((i : Int) = (xs.length : Int)) := by omega
  have hb1 : (0 : Int) ≤ (i : Int) + 1 := by omega
  have htn : ((i : Int) + 1).toNat = i + 1 := by omega
  have hb2 : ¬ (c2 = i + 1) := by omega
  have hb3 : (i : Int) ≤ (xs.length : Int) + 1 := by omega
  have hb4 : ¬ (c2 = i) := by omega
  have hb5 : i ≤ xs.length := by omega
  have hb6 : ¬ (xs.length = i) := by omega
  clear hrow2 hrow3 hrow4 hrow5 hrow6 hx3 hr1 hr2 hfin hlen hlt hW1 hW2 _hcm hm2
  go_enter Tryz.func46, Tryz.ntmps46
  go_wp2_with (first
    | (at_builtin; refine wpList_run_app _ rfl (.tmp 34) (.tmp 39) 22 3 rfl _ _ rfl rfl hrun ?_)
    | (refine wpList_run_copy _ rfl (.tmp 43) (.tmp 44) 22 22 rfl _ _ rfl rfl hcp1 ?_))
  go_region_law (refine step_run_copy rfl (.tmp 50) (.tmp 53) 22 22 rfl (.slice (some ⟨G, (i + 1) * 5, none⟩) (xs.length - i) (c2 - (i + 1))) (.slice (some ⟨g, i * 5, none⟩) (xs.length - i) (xs.length - i)) (by simp [Act.eval, Act.put]) (by simp [Act.eval, Act.put]) (by with_reducible exact hcp2) ?_)
  all_goals
    go_wp2_with fail
    go_ret
    exact ⟨_, c2, by rw [HLN.out]; rfl, HF.out, grown_of_below bW2, fun k hk => by cases hk; exact .inr hwG⟩

theorem insertLeg_any (B : Nat) (a : Option Addr) (c : Nat) (xs : List Lg) (x : Lg) (i vb : Nat) (w : World) (hown : OwnL w B (.slice a xs.length c) xs) (hi : i ≤ xs.length) (hl : xs.length ≤ 1048576)
    (hx : KRow legK 39 w vb 1 (fun _ => some x)) (hne : ∀ g o, a = some ⟨g, o, none⟩ → vb ≠ g) (hB : B ≤ w.heap.size) :
    Calls Tryz.prog 46 #[.slice a xs.length c, .int .i64 (i : Int), .slice (some ⟨vb, 0, none⟩) 1 1] w (InsRet B a w (xs.take i ++ x :: xs.drop i)) := by
  by_cases h : i = xs.length
  · subst h
    rw [List.take_length, List.drop_length]
    exact insertLeg_end B a c xs x vb w hown hl (hx.rd 0 [x] (by simp) (fun k hk => by simp at hk; subst hk; rfl)) hB
  · obtain ⟨g, cap, e, hBg, hn, hm, hrow⟩ := hown.krow (by omega)
    cases e
    by_cases h2 : xs.length + 1 ≤ c
    · exact insertLeg_room B g c xs x i vb w hBg h2 hm hrow (by omega) hl hx (hne g 0 rfl)
    · obtain rfl : c = xs.length := by omega
      exact insertLeg_grow B g xs x i vb w hB hm hrow (by omega) hl hx

theorem zeroLegRun (w : World) : (zeroValue 39).run Tryz.prog w = .ok (.agg #[.int .i64 0, .int .i64 0, .int .i64 0, .int .i64 0, .int .i64 0]) w := Tryz.zeroValue39 w

theorem step_run_app {P : Program} {ops : Array Oper} {o : Oper} {a : Act} {w : World} {K : Act → World → Prop} {Q : Exit → Act → World → Prop} {E : Prop}
    (hg : o.guard = none) (d x : Operand) (dT sT : TypeId) (hop : o.op = Op.call { callee := Callee.builtin Builtin.append, args := #[d, x], argTypes := #[dT, sT] })
    (v u : Value) (hd : a.eval d = v) (hx : a.eval x = u) {v' : Value} {w' : World} (hr : (Builtin.append_ #[dT, sT] o.type #[v, u]).run P w = .ok v' w') (hK : K (a.put o.dst v') w') :
    if Region.wanted o (yielded ops a.tmps) = true then Oper.wp P o a w K Q else E := by
  have hw : Region.wanted o (yielded ops a.tmps) = true := by simp [Region.wanted, hg]
  rw [if_pos hw]
  unfold Oper.wp
  simp [execOp, hop, resolve, invoke, builtin, hd, hx, hr, Result.andThen]
  exact hK

theorem nth_del (xs : List Lg) (i : Nat) (hi : i < xs.length) (k : Nat) (_hk : k < xs.length - 1) : nth (xs.take i ++ xs.drop (i + 1)) k = if k < i then nth xs k else nth xs (k + 1) := by
  have hl : (xs.take i).length = i := by simp; omega
  by_cases h1 : k < i
  · rw [if_pos h1, nth_append_left (by omega), nth_take h1]
  · rw [if_neg h1, nth_append_right (by omega), hl, nth_drop]; congr 1; omega

set_option maxRecDepth 100000 in
set_option maxHeartbeats 1000000 in
theorem deleteLeg_row (B g cap : Nat) (xs : List Lg) (i : Nat) (w : World) (hBg : B ≤ g) (hcap : xs.length ≤ cap) (hcm : cap ≤ maxLen) (hrow : KRow legK 39 w g cap (fun k => if k < xs.length then some (nth xs k) else none)) (hi : i < xs.length) (hl : xs.length ≤ 1048576) :
    Calls Tryz.prog 47 #[.slice (some ⟨g, 0, none⟩) xs.length cap, .int .i64 (i : Int), .int .i64 ((i : Int) + 1)] w (InsRet B (some ⟨g, 0, none⟩) w (xs.take i ++ xs.drop (i + 1))) := by
  have hlen : (xs.take i ++ xs.drop (i + 1)).length = xs.length - 1 := by simp; omega
  obtain ⟨A, hA, hrA⟩ : ∃ A : Addr, (if cap = i + 1 then (some ⟨g, 0, none⟩ : Option Addr) else some ⟨g, (i + 1) * 5, none⟩) = some A ∧ Legs w.drew (some A) (xs.drop (i + 1)) := by
    by_cases h : cap = i + 1
    · exact ⟨_, by rw [if_pos h], .inl (List.drop_eq_nil_of_le (by omega))⟩
    · refine ⟨_, by rw [if_neg h], ?_⟩
      have := hrow.drew.rd (i + 1) (xs.drop (i + 1)) (by simp; omega) (fun k hk => by simp at hk; rw [if_pos (by omega), nth_drop])
      exact this
  have happ : (Builtin.append_ #[22, 22] 22 #[.slice (some ⟨g, 0, none⟩) i cap, .slice (some A) (xs.length - (i + 1)) (cap - (i + 1))]).run Tryz.prog w.drew = .ok (.slice (some ⟨g, 0, none⟩) (i + (xs.length - (i + 1))) cap) (w.drew.setCells g (i * legK.sz) (legK.flat (xs.drop (i + 1)))) := run_kRoom legI _ hrow.drew i _ _ (xs.drop (i + 1)) hrA (by simp) (by omega)
  have hrow1 := hrow.drew.put i (xs.drop (i + 1))
  have bW1 : w.grownBy (w.drew.setCells g (i * legK.sz) (legK.flat (xs.drop (i + 1)))) (some g) := grown_setCells (grown_drew (World.grownBy.refl w _)) _ _
  obtain ⟨W1, hW1⟩ : ∃ W1, W1 = w.drew.setCells g (i * legK.sz) (legK.flat (xs.drop (i + 1))) := ⟨_, rfl⟩
  rw [← hW1] at hrow1 bW1 happ
  have hclr := run_kClear legI zeroLegRun rfl (by intro u hu; simp [Value.cells] at hu; rw [hu]; rfl) 0 hrow1 (xs.length - 1) 1 (cap - (i + (xs.length - (i + 1)))) (by omega) (by omega)
  have hrow2 := hrow1.over (xs.length - 1) (Builtin.zeroCells (Value.agg #[.int .i64 0, .int .i64 0, .int .i64 0, .int .i64 0, .int .i64 0]).cells 1).toList
  have bW2 : w.grownBy (W1.setCells g ((xs.length - 1) * legK.sz) (Builtin.zeroCells (Value.agg #[.int .i64 0, .int .i64 0, .int .i64 0, .int .i64 0, .int .i64 0]).cells 1).toList) (some g) := grown_setCells bW1 _ _
  obtain ⟨W2, hW2⟩ : ∃ W2, W2 = W1.setCells g ((xs.length - 1) * legK.sz) (Builtin.zeroCells (Value.agg #[.int .i64 0, .int .i64 0, .int .i64 0, .int .i64 0, .int .i64 0]).cells 1).toList := ⟨_, rfl⟩
  rw [← hW2] at hrow2 bW2 hclr
  have hfin : OwnL W2 B (.slice (some ⟨g, 0, none⟩) (xs.take i ++ xs.drop (i + 1)).length cap) (xs.take i ++ xs.drop (i + 1)) := by
    refine hrow2.own hBg _ (by omega) hcm fun k hk => ?_
    rw [hlen] at hk
    rw [nth_del xs i hi k hk, if_pos hk]
    simp only [List.length_drop]
    by_cases h1 : k < i
    · rw [if_neg (by omega), if_pos (by omega), if_pos h1]
    · rw [if_pos (by omega), if_neg h1, nth_drop]; congr 2; omega
  have hclr2 : (Builtin.clear_ #[22] 0 #[.slice (some ⟨g, (i + (xs.length - (i + 1))) * 5, none⟩) (xs.length - (i + (xs.length - (i + 1)))) (cap - (i + (xs.length - (i + 1))))]).run Tryz.prog W1 = .ok (.tuple #[]) W2 := by
    have e1 : xs.length - (i + (xs.length - (i + 1))) = 1 := by omega
    have e2 : i + (xs.length - (i + 1)) = xs.length - 1 := by omega
    rw [e1]
    rw [e2] at hclr ⊢
    exact hclr
  have hw1 : IntKind.i64.wrap ((i : Int) + 1) = (i : Int) + 1 := by rw [IntKind.wrap_i64]; omega
  have HF := Lib.hid hfin
  have HLN := Lib.hid hlen
  have hc63 : cap ≤ 9223372036854775807 := by unfold maxLen at hcm; omega
  have hz2 : ¬ ((i : Int) = (i : Int) + 1) := by omega
  have hb1 : (0 : Int) ≤ (i : Int) + 1 := by omega
  have htn : ((i : Int) + 1).toNat = i + 1 := by omega
  have hb3 : (i : Int) + 1 ≤ (xs.length : Int) := by omega
  have hb5 : i ≤ cap := by omega
  have hb6 : i + 1 ≤ cap := by omega
  have hb7 : i + 1 ≤ xs.length := by omega
  have HA := Lib.hid hA
  clear hrow2 hrow1 hrow hrA hA hclr hfin hlen hW1 hW2 hcm
  go_enter Tryz.func47, Tryz.ntmps47
  go_wp2_with fail
  go_region_law (refine step_run_app rfl (.tmp 22) (.tmp 25) 22 22 rfl (.slice (some ⟨g, 0, none⟩) i cap) (.slice (some A) (xs.length - (i + 1)) (cap - (i + 1))) (by simp [Act.eval, Act.put]) (by simp [Act.eval, Act.put, HA.out]) (by with_reducible exact happ) ?_)
  all_goals
    go_wp2_with fail
    all_goals
      go_ret
      first
        | exact ⟨_, cap, by rw [HLN.out, show xs.length - 1 = i + (xs.length - (i + 1)) by omega]; rfl, HF.out, bW2, fun k hk => .inl hk⟩
        | (have hcc : cap = i + 1 := by assumption
           subst hcc
           exact ⟨_, i + 1, by rw [HLN.out, show xs.length - 1 = i + (xs.length - (i + 1)) by omega]; rfl, HF.out, bW2, fun k hk => .inl hk⟩)

theorem deleteLeg_any (B : Nat) (a : Option Addr) (c : Nat) (xs : List Lg) (i : Nat) (w : World) (hown : OwnL w B (.slice a xs.length c) xs) (hi : i < xs.length) (hl : xs.length ≤ 1048576) :
    Calls Tryz.prog 47 #[.slice a xs.length c, .int .i64 (i : Int), .int .i64 ((i : Int) + 1)] w (InsRet B a w (xs.take i ++ xs.drop (i + 1))) := by
  obtain ⟨g, cap, e, hBg, hn, hm, hrow⟩ := hown.krow (by omega)
  cases e
  exact deleteLeg_row B g c xs i w hBg hn hm hrow hi hl
end Go.Proofs.YtgggbapcpjfljaaGreatDoor
