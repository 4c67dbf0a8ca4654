/- The library's readings in my words: Cut, Split, Atoi; what lies in memory for them. And the plain law of impl.ReadLeg. -/
import Derived.Test.YtgggbapcpjfljaaGreatDoorTP8
import Derived.Test.YtgggbapcpjfljaaGreatDoorShelf2
namespace Go.Proofs.YtgggbapcpjfljaaGreatDoor
open Go Go.RowKit Go.Sort

theorem gSyn : Tryz.prog.globalNamed "strconv.ErrSyntax" = some 1 := by kernel_rfl
theorem gRng : Tryz.prog.globalNamed "strconv.ErrRange" = some 2 := by kernel_rfl
/-- what the library wants of memory -/
structure Lby (w : World) : Prop where
  pow : Pow w
  maxl : ∃ m, w.cell? ⟨0, 0, none⟩ = some (.int .i64 m)
  syn : ∃ tp p, w.var? Tryz.prog "strconv.ErrSyntax" = some #[.iface tp p]
  rng : ∃ tp p, w.var? Tryz.prog "strconv.ErrRange" = some #[.iface tp p]
theorem var_lt {w : World} {n : String} {g : Nat} {cs : Array Value} (hg : Tryz.prog.globalNamed n = some g) (h : w.var? Tryz.prog n = some cs) : g < w.heap.size := by
  unfold World.var? at h
  rw [hg] at h
  simp only [Option.bind_some] at h
  apply Nat.lt_of_not_le
  intro hle
  rw [Array.getElem?_eq_none hle] at h
  cases h
theorem Lby.below {w w' : World} (h : Lby w) (hb : Below w.heap.size w w') : Lby w' := by
  obtain ⟨h1, ⟨m, h2⟩, ⟨t1, p1, h3⟩, t2, p2, h4⟩ := h
  exact ⟨h1.below hb, ⟨m, (hb.cell (cell_lt h2)).trans h2⟩, ⟨t1, p1, var?_below hb gSyn (var_lt gSyn h3) h3⟩, t2, p2, var?_below hb gRng (var_lt gRng h4) h4⟩

theorem cut_hit (c : UInt8) {s p r : ByteArray} (w : World) (hs : s.size ≤ 1048576) (h : s.data.toList = p.data.toList ++ c :: r.data.toList) (hp : c ∉ p.data.toList) (hw : Lby w) :
    Calls Tryz.prog 14 #[.string s, .string ⟨#[c]⟩] w fun e w' => e = .returned (.tuple #[.string p, .string r, .bool true]) ∧ Below w.heap.size w w' := by
  obtain ⟨m, hm⟩ := hw.maxl
  have hc : Lib.cut s.data.toList (⟨#[c]⟩ : ByteArray).data.toList = (p.data.toList, r.data.toList, true) := by
    rw [h]; exact cut_app _ hp
  refine (Tryz.strings_Cut s ⟨#[c]⟩ m w (by omega) hm).mono fun e w' he => ?_
  obtain ⟨he, n, rfl⟩ := he
  rw [hc] at he
  exact ⟨by rw [he], below_drewN (Below.refl _ _) n⟩
theorem cut_miss (c : UInt8) {s : ByteArray} (w : World) (hs : s.size ≤ 1048576) (h : c ∉ s.data.toList) (hw : Lby w) :
    Calls Tryz.prog 14 #[.string s, .string ⟨#[c]⟩] w fun e w' => e = .returned (.tuple #[.string s, .string ⟨#[]⟩, .bool false]) ∧ Below w.heap.size w w' := by
  obtain ⟨m, hm⟩ := hw.maxl
  have hc : Lib.cut s.data.toList (⟨#[c]⟩ : ByteArray).data.toList = (s.data.toList, [], false) := cut_no h
  refine (Tryz.strings_Cut s ⟨#[c]⟩ m w (by omega) hm).mono fun e w' he => ?_
  obtain ⟨he, n, rfl⟩ := he
  rw [hc] at he
  exact ⟨by rw [he], below_drewN (Below.refl _ _) n⟩
/-- either a text has the byte, or not -/
theorem has_or (c : UInt8) (s : ByteArray) : c ∉ s.data.toList ∨ ∃ p r : ByteArray, s.data.toList = p.data.toList ++ c :: r.data.toList ∧ c ∉ p.data.toList := by
  by_cases h : c ∈ s.data.toList
  · obtain ⟨p, r, e, hp⟩ := List.eq_append_cons_of_mem h
    exact .inr ⟨toB p, toB r, by simp [e], by simpa using hp⟩
  · exact .inl h
theorem part_le {c : UInt8} {s p r : ByteArray} (h : s.data.toList = p.data.toList ++ c :: r.data.toList) : p.size + 1 + r.size = s.size := by
  have := congrArg List.length h
  simp only [List.length_append, List.length_cons] at this
  have e1 : s.data.toList.length = s.size := rfl
  have e2 : p.data.toList.length = p.size := rfl
  have e3 : r.data.toList.length = r.size := rfl
  omega
theorem split_any (c : UInt8) (s : ByteArray) (w : World) (hs : s.size ≤ 1048576) (hw : Lby w) :
    Calls Tryz.prog 60 #[.string s, .string ⟨#[c]⟩] w fun e w' => e = .returned (.slice (some ⟨w.heap.size, 0, none⟩) (cutB c s).length (cutB c s).length) ∧ w.alloc (.cells ((cutB c s).map Value.string).toArray 9) = w' := by
  obtain ⟨m, hm⟩ := hw.maxl
  refine (Tryz.strings_Split s ⟨#[c]⟩ m w (by omega) hm (Nat.le_refl 1)).mono fun e w' he => ?_
  obtain ⟨he, hw'⟩ := he
  have hl : (cutB c s).length = Lib.countB s ⟨#[c]⟩ + 1 := by rw [← splitB_all_cut, Lib.splitB_all ⟨#[c]⟩ (Nat.le_refl 1) 0 _ s rfl]
  rw [splitB_all_cut] at hw'
  exact ⟨by rw [he, hl], hw'.symm⟩
theorem atoi_ok {s : ByteArray} {v : Int} (h : atoF s = some v) (w : World) (hs : s.size ≤ 1048576) :
    Calls Tryz.prog 35 #[.string s] w fun e w' => e = .returned (.tuple #[.int .i64 v, .nilIface]) ∧ Below w.heap.size w w' := by
  have h2 : Lib.atoiAll s.data.toList = .ok v := by
    unfold atoF at h
    split at h
    · rename_i e; cases h; exact e
    · cases h
  refine (Tryz.strconv_Atoi_ok s (by omega) v h2 w).mono fun e w' he => ?_
  obtain ⟨he, rfl | ⟨t, rfl⟩⟩ := he
  · exact ⟨he, Below.refl _ _⟩
  · exact ⟨he, Lib.bytesWorld_below _ _ _⟩
theorem atoi_no {s : ByteArray} (h : atoF s = none) (w : World) (hs : s.size ≤ 1048576) (hw : Lby w) :
    Calls Tryz.prog 35 #[.string s] w fun e w' => ∃ v t p, e = .returned (.tuple #[.int .i64 v, .iface t p]) ∧ Below w.heap.size w w' := by
  obtain ⟨t1, p1, h3⟩ := hw.syn
  obtain ⟨t2, p2, h4⟩ := hw.rng
  rcases h2 : Lib.atoiAll s.data.toList with v | _ | _
  · unfold atoF at h; rw [h2] at h; cases h
  · refine (Tryz.strconv_Atoi_syntax_var s (by omega) h2 t1 p1 w h3).mono fun e w' he => ?_
    obtain ⟨N, he, _, _, hb⟩ := he
    exact ⟨_, _, _, he, hb⟩
  · refine (Tryz.strconv_Atoi_range_var s (by omega) h2 t2 p2 w h4).mono fun e w' he => ?_
    obtain ⟨N, he, _, _, hb⟩ := he
    exact ⟨_, _, _, he, hb⟩

/-! ### the plain law of impl.ReadLeg -/
theorem part_uniq {c : UInt8} {p r p' r' : List UInt8} (h : p ++ c :: r = p' ++ c :: r') (hp : c ∉ p) (hp' : c ∉ p') : p = p' ∧ r = r' := by
  have h1 := cut_app r hp
  rw [h, cut_app r' hp'] at h1
  injection h1 with e1 e2
  injection e2 with e2 e3
  exact ⟨e1.symm, e2.symm⟩
theorem toB_inj {l : List UInt8} {s : ByteArray} (h : s.data.toList = l) : s = toB l := by rw [← h, toB_data]
/-- a leg's text has all its parts -/
theorem leg_parts {g : Lg} (h : legOk 6 g = true) {p r : ByteArray} (e : (legB g).data.toList = p.data.toList ++ 62 :: r.data.toList) (hp : (62 : UInt8) ∉ p.data.toList) :
    p = itoaB g.frm ∧ (62 : UInt8) ∈ (legB g).data.toList ∧ (58 : UInt8) ∈ r.data.toList ∧ ∀ t u : ByteArray, r.data.toList = t.data.toList ++ 58 :: u.data.toList → (58 : UInt8) ∉ t.data.toList → t = itoaB g.to ∧ cutB 44 u = [itoaB g.east, itoaB g.north, itoaB g.up] := by
  obtain ⟨hr1, hr2, hr3, hr4, hr5⟩ := legOk_range (by omega) h
  have n62 : ∀ {n : Int}, -99 ≤ n ∧ n ≤ 99 → (62 : UInt8) ∉ Lib.itoa n := fun h => itoa_no h (by decide) (by decide)
  have n58 : ∀ {n : Int}, -99 ≤ n ∧ n ≤ 99 → (58 : UInt8) ∉ Lib.itoa n := fun h => itoa_no h (by decide) (by decide)
  have n44 : ∀ {n : Int}, -99 ≤ n ∧ n ≤ 99 → (44 : UInt8) ∉ Lib.itoa n := fun h => itoa_no h (by decide) (by decide)
  have e0 := legB_list h
  have e1 : (legB g).data.toList = Lib.itoa g.frm ++ 62 :: (Lib.itoa g.to ++ 58 :: (Lib.itoa g.east ++ 44 :: (Lib.itoa g.north ++ 44 :: Lib.itoa g.up))) := by rw [e0]; simp
  have hin : (62 : UInt8) ∈ (legB g).data.toList := by rw [e1]; simp
  rw [e1] at e
  obtain ⟨a1, a2⟩ := part_uniq e (n62 (by omega)) hp
  refine ⟨toB_inj a1.symm, hin, by rw [← a2]; simp, fun t u et ht => ?_⟩
  rw [← a2] at et
  obtain ⟨b1, b2⟩ := part_uniq et (n58 (by omega)) ht
  refine ⟨toB_inj b1.symm, ?_⟩
  unfold cutB
  rw [← b2, cutL_app _ (n44 hr3), cutL_app _ (n44 hr4), cutL_none (n44 hr5)]
  rfl
theorem legI_no62 {s : ByteArray} (h : (62 : UInt8) ∉ s.data.toList) : rdLegD s = (noLeg, false) :=
  rdLegD_none (rdLeg_no fun g hg e => by
    subst e
    have e1 := legB_list hg
    exact h (by rw [e1]; simp))
theorem legI_no58 {s p r : ByteArray} (e : s.data.toList = p.data.toList ++ 62 :: r.data.toList) (hp : (62 : UInt8) ∉ p.data.toList) (h : (58 : UInt8) ∉ r.data.toList) : rdLegD s = (noLeg, false) :=
  rdLegD_none (rdLeg_no fun g hg e1 => by
    subst e1
    exact h (leg_parts hg e hp).2.2.1)
theorem legI_no3 {s p r t u : ByteArray} (e : s.data.toList = p.data.toList ++ 62 :: r.data.toList) (hp : (62 : UInt8) ∉ p.data.toList) (e2 : r.data.toList = t.data.toList ++ 58 :: u.data.toList) (ht : (58 : UInt8) ∉ t.data.toList) (h : (cutB 44 u).length ≠ 3) : rdLegD s = (noLeg, false) :=
  rdLegD_none (rdLeg_no fun g hg e1 => by
    subst e1
    have := ((leg_parts hg e hp).2.2.2 t u e2 ht).2
    rw [this] at h
    exact h rfl)
/-- what the five texts of a leg are -/
theorem legI_five {s p r t u x y z : ByteArray} (e : s.data.toList = p.data.toList ++ 62 :: r.data.toList) (hp : (62 : UInt8) ∉ p.data.toList) (e2 : r.data.toList = t.data.toList ++ 58 :: u.data.toList) (ht : (58 : UInt8) ∉ t.data.toList) (h : cutB 44 u = [x, y, z])
    (g : Lg) (hg : legOk 6 g = true) (e1 : legB g = s) : ∀ j, j < 5 → atoF (nth [p, t, x, y, z] j) = some (nth [g.frm, g.to, g.east, g.north, g.up] j) := by
  subst e1
  obtain ⟨hr1, hr2, hr3, hr4, hr5⟩ := legOk_range (by omega) hg
  obtain ⟨k1, _, _, k2⟩ := leg_parts hg e hp
  obtain ⟨k3, k4⟩ := k2 t u e2 ht
  rw [h] at k4
  injection k4 with k4 k5
  injection k5 with k5 k6
  injection k6 with k6 k7
  subst k1 k3 k4 k5 k6
  intro j hj
  have : j = 0 ∨ j = 1 ∨ j = 2 ∨ j = 3 ∨ j = 4 := by omega
  rcases this with rfl | rfl | rfl | rfl | rfl
  · exact atoF_itoa (by omega)
  · exact atoF_itoa (by omega)
  · exact atoF_itoa hr3
  · exact atoF_itoa hr4
  · exact atoF_itoa hr5
theorem legI_bad {s p r t u x y z : ByteArray} (e : s.data.toList = p.data.toList ++ 62 :: r.data.toList) (hp : (62 : UInt8) ∉ p.data.toList) (e2 : r.data.toList = t.data.toList ++ 58 :: u.data.toList) (ht : (58 : UInt8) ∉ t.data.toList) (h : cutB 44 u = [x, y, z])
    {j : Nat} (hj : j < 5) (hn : atoF (nth [p, t, x, y, z] j) = none) : rdLegD s = (noLeg, false) :=
  rdLegD_none (rdLeg_no fun g hg e1 => by
    have := legI_five e hp e2 ht h g hg e1 j hj
    rw [hn] at this
    cases this)
theorem legI_cand {s p r t u x y z : ByteArray} (e : s.data.toList = p.data.toList ++ 62 :: r.data.toList) (hp : (62 : UInt8) ∉ p.data.toList) (e2 : r.data.toList = t.data.toList ++ 58 :: u.data.toList) (ht : (58 : UInt8) ∉ t.data.toList) (h : cutB 44 u = [x, y, z])
    (f : Nat → Int) (hf : ∀ j, j < 5 → atoF (nth [p, t, x, y, z] j) = some (f j)) : rdLegD s = if legB ⟨f 0, f 1, f 2, f 3, f 4⟩ = s then (⟨f 0, f 1, f 2, f 3, f 4⟩, true) else (noLeg, false) := by
  have hs0 : s.size ≠ 0 := by have := part_le e; omega
  have hc := rdLeg_cand (s := s) (g := ⟨f 0, f 1, f 2, f 3, f 4⟩) fun g hg e1 => by
    have h5 := legI_five e hp e2 ht h g hg e1
    have k : ∀ j, j < 5 → nth [g.frm, g.to, g.east, g.north, g.up] j = f j := fun j hj => by
      have := h5 j hj
      rw [hf j hj] at this
      exact (Option.some.inj this).symm
    obtain ⟨a, b, c, d, i⟩ := g
    have k0 := k 0 (by omega)
    have k1 := k 1 (by omega)
    have k2 := k 2 (by omega)
    have k3 := k 3 (by omega)
    have k4 := k 4 (by omega)
    simp only [nth, List.getD_eq_getElem?_getD] at k0 k1 k2 k3 k4
    simp at k0 k1 k2 k3 k4
    rw [k0, k1, k2, k3, k4]
  by_cases hl : legB ⟨f 0, f 1, f 2, f 3, f 4⟩ = s
  · rw [if_pos ⟨hl, hs0⟩] at hc
    rw [if_pos hl]
    exact rdLegD_some hc
  · rw [if_neg (fun h => hl h.1)] at hc
    rw [if_neg hl]
    exact rdLegD_none hc
end Go.Proofs.YtgggbapcpjfljaaGreatDoor
