/- Walks: copies of lists of deeds, turned lists of deeds. -/
import Derived.Test.YtgggbapcpjfljaaDoorG20
import Derived.BigRegion
import Derived.Lib.AppendZeros
namespace Go.Proofs.YtgggbapcpjfljaaDoor
open Go Go.RowKit Go.Sort

theorem cloneDds_any (a : Option Addr) (c : Nat) (l : List Dd) (w : World) (hl : l.length ≤ 1048576) (hs : Dds w a l) :
    Calls Tryd.prog 66 #[.slice a l.length c] w fun e w' => ∃ v, e = .returned v ∧ OwnD w' w.heap.size v l ∧ Below w.heap.size w w' := by
  have heq : ∀ (w : World) (a : Option Addr) (n c n' c' : Nat), (binOp .eql 48 (.slice a n c) (.slice none n' c')).run Tryd.prog w = .ok (.bool a.isNone) w := fun w a n c n' c' => Lib.run_eql_slice_nil w _ _ a n c n' c' Tryd.underlying48
  cases a with
  | none =>
    obtain rfl := hs.empty
    go_enter Tryd.func66, Tryd.ntmps66
    go_wp2
    go_ret
    exact ⟨_, rfl, KOwn.nil, Below.refl _ _⟩
  | some ad =>
    go_enter Tryd.func66, Tryd.ntmps66
    go_wp2_with (at_builtin; refine wpList_kApp ddI _ _ rfl rfl w.heap.size _ [] l (some ad) c rfl (KOwn.lit w w.heap.size (Nat.le_refl _)) rfl (hs.below (by repeat (first | with_reducible assumption | exact Below.refl _ _ | refine below_drewN ?_ _ | refine Below.drew ?_ | refine Below.alloc ?_ (by first | omega | (simp; done) | (simp; omega)) _ | refine Below.setCell ?_ (by first | omega | (simp; done) | (simp; omega)) _))) (by simp) (by omega) (by simp) ?_; rintro av cv w1 o1 - b1 -)
    go_ret
    exact ⟨_, rfl, o1, Below.trans (by repeat (first | with_reducible assumption | exact Below.refl _ _ | refine below_drewN ?_ _ | refine Below.drew ?_ | refine Below.alloc ?_ (by first | omega | (simp; done) | (simp; omega)) _ | refine Below.setCell ?_ (by first | omega | (simp; done) | (simp; omega)) _)) b1⟩

/-! ### turned round in place -/
theorem Wr.drew {R : Nat → Prop} {w w' : World} (h : Wr R w w') : Wr R w w'.drew := h.trans ⟨rfl, rfl, rfl, Nat.le_refl _, fun _ _ _ => rfl⟩
theorem Wr.setCell {R : Nat → Prop} {w w' : World} (h : Wr R w w') {p : Addr} (hp : R p.block) (v : Value) : Wr R w (w'.setCell p v) :=
  h.trans ⟨rfl, rfl, rfl, by simp [World.setCell], fun k _ hk => Below.heap_setCell _ _ _ _ (fun e => hk (by rw [e]; exact hp))⟩
theorem Wr.setCells {R : Nat → Prop} {w : World} {g : Nat} (hg : R g) : ∀ (vs : List Value) (o : Nat) (w' : World), Wr R w w' → Wr R w (w'.setCells g o vs)
  | [], _, _, h => h
  | v :: r, o, w', h => by rw [World.setCells]; exact Wr.setCells hg r (o + 1) _ (h.setCell (p := ⟨g, o, none⟩) hg v)
/-- the list while it is turned round: i elements at either end are -/
def revAt (l : List Dd) (i k : Nat) : Option Dd := if k < l.length then some (if k < i ∨ l.length ≤ k + i then nth l (l.length - 1 - k) else nth l k) else none
theorem nth_reverse (l : List Dd) (k : Nat) (hk : k < l.length) : nth l.reverse k = nth l (l.length - 1 - k) := by
  unfold nth
  rw [List.getD_eq_getElem?_getD, List.getD_eq_getElem?_getD, List.getElem?_reverse hk]

set_option maxRecDepth 100000 in
set_option maxHeartbeats 4000000 in
theorem revDds_any (B : Nat) (a : Option Addr) (c : Nat) (l : List Dd) (w : World) (hl : l.length ≤ 1048576) (ho : OwnD w B (.slice a l.length c) l) :
    Calls Tryd.prog 67 #[.slice a l.length c] w fun e w' => e = .returned (.tuple #[]) ∧ OwnD w' B (.slice a l.length c) l.reverse ∧ Wr (fun j => (Value.slice a l.length c).ownBlock = some j) w w' := by
  by_cases h0 : 0 < l.length
  · obtain ⟨g, cap, e, hBg, hn, hm, hr⟩ := ho.krow h0
    cases e
    clear ho
    have hg : (Value.slice (some ⟨g, 0, none⟩) l.length c).ownBlock = some g := rfl
    go_enter Tryd.func67, Tryd.ntmps67
    go_wp2_with fail
    go_loopw [2, 3] (fun s t wr => ∃ i : Nat, 2 * i ≤ l.length ∧ s = .int .i64 i ∧ t = .int .i64 ((l.length : Int) - 1 - i) ∧ KRow ddK 29 wr g c (revAt l i) ∧ Wr (fun j => (Value.slice (some ⟨g, 0, none⟩) l.length c).ownBlock = some j) w wr) (fun s _ _ => l.length - (intOf s).toNat)
    case atStart => exact ⟨0, by omega, rfl, by simp, hr.congr (fun k _ x hx => by
      unfold revAt at hx
      split at hx
      · rename_i hk; rw [if_neg (by omega)] at hx; rw [if_pos hk]; exact hx
      · cases hx), .refl⟩
    case round =>
      obtain ⟨i, hi, rfl, rfl, hr, hw⟩ := hrel
      by_cases hlt : 2 * i + 1 < l.length
      · have hic : i < c := by omega
        obtain ⟨j, hj⟩ : ∃ j : Nat, (l.length : Int) - 1 - i = (j : Int) := ⟨l.length - 1 - i, by omega⟩
        have hjn : j = l.length - 1 - i := by omega
        have hij : i < j := by omega
        have hjc : j < c := by omega
        have hjl : j < l.length := by omega
        rw [hj]
        have HJ := Lib.hid hj
        have HJN := Lib.hid hjn
        have fi : revAt l i i = some (nth l i) := by unfold revAt; rw [if_pos (by omega), if_neg (by omega)]
        have fj : revAt l i j = some (nth l j) := by unfold revAt; rw [if_pos (by omega), if_neg (by omega)]
        have m0 := hr.at hic fi (r := 0) rfl
        have m1 := hr.at hic fi (r := 1) rfl
        have m2 := hr.at hic fi (r := 2) rfl
        have m3 := hr.at hic fi (r := 3) rfl
        have m4 := hr.at hic fi (r := 4) rfl
        have m5 := hr.at hic fi (r := 5) rfl
        have m6 := hr.at hic fi (r := 6) rfl
        have n0 := hr.at hjc fj (r := 0) rfl
        have n1 := hr.at hjc fj (r := 1) rfl
        have n2 := hr.at hjc fj (r := 2) rfl
        have n3 := hr.at hjc fj (r := 3) rfl
        have n4 := hr.at hjc fj (r := 4) rfl
        have n5 := hr.at hjc fj (r := 5) rfl
        have n6 := hr.at hjc fj (r := 6) rfl
        simp only [ddK, Nat.add_zero] at m0 m1 m2 m3 m4 m5 m6 n0 n1 n2 n3 n4 n5 n6
        have hfz := hr.free
        have hij2 : (i : Int) < (j : Int) := by omega
        have hl2 : (j : Int) < (l.length : Int) := by omega
        have hl3 : (i : Int) < (l.length : Int) := by omega
        have p1 := hr.put i [nth l j]
        have p2 := p1.put j [nth l i]
        clear fi fj hj hjn
        go_wp2_with fail
        go_big_region
        go_wp2_with fail
        go_roundw
        case rel =>
          have e1 := HJN.out
          refine ⟨i + 1, by omega, by go_num, by congr 1; omega, ?_, ?_⟩
          · show KRow ddK 29 ((wr.setCells g (i * ddK.sz) (ddK.flat [nth l j])).setCells g (j * ddK.sz) (ddK.flat [nth l i])).drew g c (revAt l (i + 1))
            refine (p2.congr fun k hk x hx => ?_).drew
            unfold revAt at hx ⊢
            simp only [List.length_cons, List.length_nil]
            by_cases hkl : k < l.length
            · rw [if_pos hkl] at hx
              by_cases e2 : k = j
              · subst e2
                rw [if_pos (by omega)] at hx
                rw [if_pos (by omega), ← hx]
                have : l.length - 1 - k = i := by omega
                rw [this]; simp [nth]
              · by_cases e3 : k = i
                · subst e3
                  rw [if_pos (by omega)] at hx
                  rw [if_neg (by omega), if_pos (by omega), ← hx]
                  rw [← e1]; simp [nth]
                · rw [if_neg (by omega), if_neg (by omega), if_pos hkl, ← hx]
                  congr 1
                  by_cases e4 : k < i ∨ l.length ≤ k + i
                  · rw [if_pos e4, if_pos (by omega)]
                  · rw [if_neg e4, if_neg (by omega)]
            · rw [if_neg hkl] at hx; cases hx
          · exact (Wr.setCells hg [_, _, _, _, _, _, _] (j * 7) _ (Wr.setCells hg [_, _, _, _, _, _, _] (i * 7) _ hw)).drew
        case measure => simp [intOf] <;> omega
      · go_wp2_with fail
        go_end0
        refine ⟨rfl, ?_, hw⟩
        have := hr.own hBg l.reverse (by rw [List.length_reverse]; exact hn) hm (fun k hk => by
          rw [List.length_reverse] at hk
          rw [nth_reverse l k hk]
          unfold revAt
          rw [if_pos hk]
          by_cases e4 : k < i ∨ l.length ≤ k + i
          · rw [if_pos e4]
          · rw [if_neg e4]
            have : l.length - 1 - k = k := by omega
            rw [this])
        rw [List.length_reverse] at this
        exact this
  · have e : l = [] := List.eq_nil_of_length_eq_zero (by omega)
    subst e
    go_enter Tryd.func67, Tryd.ntmps67
    go_wp2_with fail
    go_loopw [2, 3] (fun s t wr => s = .int .i64 ((0 : Nat) : Int) ∧ t = .int .i64 (-1) ∧ wr = w) (fun _ _ _ => 0)
    case atStart => exact ⟨rfl, rfl, rfl⟩
    case round =>
      obtain ⟨rfl, rfl, rfl⟩ := hrel
      go_wp2_with fail
      go_end0
      exact ⟨rfl, ho, .refl⟩

/-! ### Concat of two -/
theorem growNil_any (n : Nat) (w : World) (hn : n ≤ 2097152) :
    Calls Tryd.prog 80 #[.slice none 0 0, .int .i64 (n : Int)] w fun e w' => ∃ a c, e = .returned (.slice a 0 c) ∧ OwnD w' w.heap.size (.slice a 0 c) [] ∧ Below w.heap.size w w' := by
  obtain ⟨i0, hi, hz0, hz1, hz2⟩ := info_parts infoDd
  by_cases h0 : 0 < n
  · have hrun : ∀ ty, (Builtin.append_ #[48, 3] ty #[.slice none 0 0, .int .i64 (n : Int)]).run Tryd.prog w = _ := fun ty => Lib.run_append_nil_zeros w 48 3 ty 29 i0 _ .i64 .i64 Tryd.underlying48 Tryd.underlying3 hi hz0 n h0 (by rw [hz1]; omega) (by omega) (by rw [hz2]; omega)
    obtain ⟨c, hc⟩ : ∃ c, grownCap w n 0 29 = c := ⟨_, rfl⟩
    have hge : n ≤ c := by rw [← hc]; have := grownCap_ge w n 0 29; exact this
    have hle : c ≤ maxLen := by rw [← hc]; exact grownCap_le_maxLen w n 0 29 (by unfold maxLen; omega)
    have hle2 : c ≤ 9223372036854775807 := by unfold maxLen at hle; omega
    simp only [hc] at hrun
    have HR := Lib.hid hrun
    clear hrun hc hz0 hz1 hz2 hi
    go_enter Tryd.func80, Tryd.ntmps80
    go_wp2_with (at_builtin; refine Lib.wpList_append_run _ rfl _ _ _ _ rfl _ _ rfl rfl _ _ (HR.out _) ?_)
    go_ret
    refine ⟨_, _, rfl, ?_, ((Below.refl _ _).drew).alloc (Nat.le_refl _) _⟩
    have hk := KRow.new (K := ddK) (T := 29) (cap := c) (F := fun _ => none) w.drew (Builtin.zeroCells (Value.agg #[.int .i64 0, .int .i64 0, .int .i64 0, .int .i64 0, .int .i64 0, .int .i64 0, .int .i64 0]).cells n ++ Builtin.zeroCells (Value.agg #[.int .i64 0, .int .i64 0, .int .i64 0, .int .i64 0, .int .i64 0, .int .i64 0, .int .i64 0]).cells (c - n)) (by
      simp only [Array.size_append, zeroCells_size, ← Nat.add_mul]
      show (n + (c - n)) * 7 = c * 7
      congr 1; omega) (fun _ _ _ h => by cases h)
    exact hk.own (Nat.le_refl _) [] (Nat.zero_le _) hle (fun k hk => by simp at hk)
  · have e : n = 0 := by omega
    subst e
    go_enter Tryd.func80, Tryd.ntmps80
    go_wp2_with fail
    go_ret
    exact ⟨_, _, rfl, KOwn.nil, Below.refl _ _⟩

/-- the loops of Concat over two lists -/
def CatSz (n m : Nat) (i s : Value) : Prop := (i = .int .i64 ((0 : Nat) : Int) ∧ s = .int .i64 ((0 : Nat) : Int)) ∨ (i = .int .i64 ((1 : Nat) : Int) ∧ s = .int .i64 ((n : Nat) : Int)) ∨ (i = .int .i64 ((2 : Nat) : Int) ∧ s = .int .i64 ((n + m : Nat) : Int))
def CatAt (w : World) (l m : List Dd) (i v : Value) (wr : World) : Prop := ((i = .int .i64 ((0 : Nat) : Int) ∧ OwnD wr w.heap.size v []) ∨ (i = .int .i64 ((1 : Nat) : Int) ∧ OwnD wr w.heap.size v l) ∨ (i = .int .i64 ((2 : Nat) : Int) ∧ OwnD wr w.heap.size v (l ++ m))) ∧ Below w.heap.size w wr

set_option maxHeartbeats 2000000 in
theorem concatDds_any (L : Nat) (a1 a2 : Option Addr) (c1 c2 : Nat) (l m : List Dd) (w : World) (hl : l.length ≤ 1048576) (hm : m.length ≤ 1048576) (hL : At w L [.slice a1 l.length c1, .slice a2 m.length c2]) (h1 : Dds w a1 l) (h2 : Dds w a2 m) :
    Calls Tryd.prog 68 #[.slice (some ⟨L, 0, none⟩) 2 2] w fun e w' => ∃ v, e = .returned v ∧ OwnD w' w.heap.size v (l ++ m) ∧ Below w.heap.size w w' := by
  obtain ⟨y0, y1, y2, -⟩ := hL.facts2
  go_enter Tryd.func68, Tryd.ntmps68
  go_wp2_with fail
  go_loopw [3, 11] (fun s i wr => CatSz l.length m.length i s ∧ wr = w) (fun _ i _ => 2 - (intOf i).toNat)
  case atStart => exact ⟨.inl ⟨rfl, rfl⟩, rfl⟩
  case round =>
    obtain ⟨hz, hww⟩ := hrel
    replace hww := hww.symm
    subst hww
    rcases hz with ⟨rfl, rfl⟩ | ⟨rfl, rfl⟩ | ⟨rfl, rfl⟩
    · go_wp2_with fail
      go_roundw
      case rel => exact ⟨.inr (.inl ⟨by first | rfl | go_num, by first | rfl | go_num | simp⟩), by trivial⟩
      case measure => simp [intOf]
    · go_wp2_with fail
      go_roundw
      case rel => exact ⟨.inr (.inr ⟨by first | rfl | go_num, by first | rfl | go_num | simp⟩), by trivial⟩
      case measure => simp [intOf]
    · go_wp2_with fail
      refine (growNil_any (l.length + m.length) _ (by omega)).mono ?_
      rintro e w1 ⟨a3, c3, rfl, o3, k3⟩
      have hL1 := hL.below k3
      clear y0 y1 y2
      obtain ⟨y0, y1, y2, -⟩ := hL1.facts2
      have hrel0 : CatAt w l m (.int .i64 ((0 : Nat) : Int)) (.slice a3 0 c3) w1 := ⟨.inl ⟨rfl, o3⟩, k3⟩
      clear o3 k3
      go_wp2_with fail
      go_loopw [6, 27] (fun v i wq => CatAt w l m i v wq ∧ At wq L [.slice a1 l.length c1, .slice a2 m.length c2]) (fun _ i _ => 2 - (intOf i).toNat)
      case atStart => exact ⟨hrel0, hL1⟩
      case round =>
        obtain ⟨⟨hz, bz⟩, hLq⟩ := hrel
        clear hrel0 hL1 y0 y1 y2
        obtain ⟨y0, y1, y2, -⟩ := hLq.facts2
        rcases hz with ⟨rfl, o4⟩ | ⟨rfl, o4⟩ | ⟨rfl, o4⟩
        · obtain ⟨a4, c4, rfl⟩ := o4.sl
          go_wp2_with (at_builtin; refine wpList_kApp ddI _ _ rfl rfl w.heap.size _ [] l a1 c1 rfl o4 rfl (h1.below bz) (by simp) (by omega) bz.size ?_; rintro av cv w5 o5 - b5 -)
          go_roundw
          case rel => exact ⟨⟨.inr (.inl ⟨by first | rfl | go_num, o5⟩), bz.trans b5⟩, hLq.belowB b5 (by have := hL.lt; omega)⟩
          case measure => simp [intOf]
        · obtain ⟨a4, c4, rfl⟩ := o4.sl
          go_wp2_with (at_builtin; refine wpList_kApp ddI _ _ rfl rfl w.heap.size _ l m a2 c2 rfl o4 rfl (h2.below bz) (by omega) (by omega) bz.size ?_; rintro av cv w5 o5 - b5 -)
          go_roundw
          case rel => exact ⟨⟨.inr (.inr ⟨by first | rfl | go_num, by have := o5; rw [List.length_append] at this; exact this⟩), bz.trans b5⟩, hLq.belowB b5 (by have := hL.lt; omega)⟩
          case measure => simp [intOf]
        · obtain ⟨a4, c4, rfl⟩ := o4.sl
          go_wp2_with fail
          go_ret
          exact ⟨_, rfl, o4, bz⟩

/-! ### the reference's turned list -/
theorem reverse_drop (l : List Dd) (k : Nat) (hk : k < l.length) : (l.drop (k + 1)).reverse ++ [nth l k] = (l.drop k).reverse := by
  rw [drop_nth hk, List.reverse_cons]

theorem ddHere (w : World) (x : Dd) (T : TypeId) : Dds (w.alloc (.cells #[.int .i64 x.kind, .int .i64 x.index, .int .i64 x.leg.frm, .int .i64 x.leg.to, .int .i64 x.leg.east, .int .i64 x.leg.north, .int .i64 x.leg.up] T)) (some ⟨w.heap.size, 0, none⟩) [x] := by
  refine KRd.mk (by simp) fun j u hu => ?_
  rw [Nat.zero_add]
  exact (At.new (X := w.heap.size) w _ T rfl rfl).c j u (by rw [flat_cons, flat_nil, List.append_nil] at hu; exact hu)

set_option maxHeartbeats 1000000 in
theorem l7Turned_any (a : Option Addr) (c : Nat) (l : List Dd) (w : World) (hl : l.length ≤ 1048576) (hs : Dds w a l) :
    Calls Tryd.prog 65 #[.slice a l.length c] w fun e w' => ∃ v, e = .returned v ∧ OwnD w' w.heap.size v l.reverse ∧ Below w.heap.size w w' := by
  go_enter Tryd.func65, Tryd.ntmps65
  go_wp2_with fail
  go_loopw [3, 4] (fun v i wr => ∃ k : Nat, k ≤ l.length ∧ i = .int .i64 ((k : Int) - 1) ∧ OwnD wr w.heap.size v (l.drop k).reverse ∧ Below w.heap.size w wr) (fun _ i _ => (intOf i + 1).toNat)
  case atStart => exact ⟨l.length, Nat.le_refl _, rfl, by rw [List.drop_length]; exact KOwn.lit w _ (Nat.le_refl _), (by repeat (first | with_reducible assumption | exact Below.refl _ _ | refine below_drewN ?_ _ | refine Below.drew ?_ | refine Below.alloc ?_ (by first | omega | (simp; done) | (simp; omega)) _ | refine Below.setCell ?_ (by first | omega | (simp; done) | (simp; omega)) _))⟩
  case round =>
    obtain ⟨k, hk, rfl, ho, hb⟩ := hrel
    by_cases h0 : 0 < k
    · obtain ⟨q, rfl⟩ : ∃ q, k = q + 1 := ⟨k - 1, by omega⟩
      have eq1 : ((q + 1 : Nat) : Int) - 1 = (q : Int) := by omega
      rw [eq1]
      clear eq1
      obtain ⟨b, off, rfl, hbw, m0, m1, m2, m3, m4, m5, m6⟩ := Dds.at (hs.below hb) (show q < l.length by omega)
      obtain ⟨xs, hx⟩ : ∃ xs, (l.drop (q + 1)).reverse = xs := ⟨_, rfl⟩
      rw [hx] at ho
      have HX := Lib.hid hx
      have hxl : xs.length ≤ 1048576 := by rw [← hx]; simp; omega
      clear hx
      obtain ⟨av, cv, rfl⟩ := ho.sl
      have hq0 : (0 : Int) ≤ (q : Int) := by omega
      have hz := hb.size
      go_wp2_with (at_builtin; refine wpList_kApp ddI _ _ rfl rfl w.heap.size _ xs [nth l q] (some ⟨wr.heap.size, 0, none⟩) 1 rfl (ho.alloc _) rfl (ddHere _ _ _) (by omega) (by simp) (by simp; omega) ?_; rintro av cv w5 o5 - b5 -)
      go_roundw
      case rel =>
        refine ⟨q, by omega, by first | rfl | go_num, ?_, (hb.alloc hz _).trans b5⟩
        rw [← reverse_drop l q (by omega), HX.out]
        have := o5
        rw [List.length_append] at this
        exact this
      case measure => simp [intOf] <;> omega
    · have e : k = 0 := by omega
      subst e
      go_wp2_with fail
      go_ret
      exact ⟨_, rfl, by rw [List.drop_zero] at ho; exact ho, hb⟩
end Go.Proofs.YtgggbapcpjfljaaDoor
