/- Walks: texts cut at a byte by the reference: spec.l1Cut; lists of texts in memory. -/
import Derived.Test.YtgggbapcpjfljaaGreatDoorTP3
import Derived.Test.YtgggbapcpjfljaaGreatDoorKap
namespace Go.Proofs.YtgggbapcpjfljaaGreatDoor
open Go Go.RowKit Go.Sort

/-! ### texts in memory -/
def strK : Kind ByteArray where
  sz := 1
  cells s := [.string s]
  len _ := rfl
  one _ u hu := by simp only [List.mem_cons, List.not_mem_nil, or_false] at hu; subst hu; rfl
abbrev Strs := KRd strK
abbrev OwnT (w : World) (B : Nat) (v : Value) (l : List ByteArray) : Prop := KOwn strK 9 w B v l
theorem infoStr : (Tryz.prog.info? 9).map (fun i => (i.zero, i.size, i.bytes)) = some (some (.string ByteArray.empty), 1, 16) := by kernel_rfl
theorem strI : KInfo Tryz.prog strK 9 33 := by
  obtain ⟨i0, hi, hz0, hz1, hz2⟩ := info_parts infoStr
  exact ⟨Tryz.underlying33, ⟨i0, _, 16, hi, hz0, hz1, hz2, rfl, by omega⟩, by decide⟩
theorem strHere (w : World) (x : ByteArray) (T : TypeId) : Strs (w.alloc (.cells #[.string x] T)) (some ⟨w.heap.size, 0, none⟩) [x] := by
  refine KRd.mk (by simp) fun j u hu => ?_
  have : j = 0 := by
    have := (List.getElem?_eq_some_iff.1 hu).1
    simpa [Kind.flat, strK] using this
  subst this
  have : Value.string x = u := by simpa [Kind.flat, strK] using hu
  subst this
  simp
theorem Strs.at {w : World} {a : Option Addr} {xs : List ByteArray} (h : Strs w a xs) {k : Nat} (hk : k < xs.length) :
    ∃ b off, a = some ⟨b, off, none⟩ ∧ b < w.heap.size ∧ w.cell? ⟨b, off + k, none⟩ = some (.string (nth xs k)) := by
  obtain ⟨b, off, e, hb, h⟩ := Rd.at h hk
  refine ⟨b, off, e, hb, ?_⟩
  have := h k hk 0 _ rfl
  simpa [strK, Kind.lay] using this

/-! ### the cut, byte by byte -/
def toB (l : List UInt8) : ByteArray := ⟨l.toArray⟩
@[simp] theorem toB_list (l : List UInt8) : (toB l).data.toList = l := by simp [toB]
theorem toB_data (s : ByteArray) : toB s.data.toList = s := by apply ByteArray.ext; simp [toB]
def cutB (sep : UInt8) (s : ByteArray) : List ByteArray := (cutL sep s.data.toList).map toB
theorem cutL_ne (sep : UInt8) : ∀ l, cutL sep l ≠ []
  | [] => by simp [cutL]
  | c :: r => by
    rw [cutL]
    split
    · simp
    · split <;> simp
theorem cutL_len (sep : UInt8) : ∀ l, (cutL sep l).length ≤ l.length + 1
  | [] => by simp [cutL]
  | c :: r => by
    have ih := cutL_len sep r
    rw [cutL]
    split
    · simp; omega
    · split
      · simp
      · rename_i h; rw [h] at ih; simp at ih ⊢; omega
theorem cutB_len (sep : UInt8) (s : ByteArray) : (cutB sep s).length ≤ s.size + 1 := by
  have := cutL_len sep s.data.toList
  simpa [cutB] using this
theorem cutB_pos (sep : UInt8) (s : ByteArray) : 0 < (cutB sep s).length := by
  have := cutL_ne sep s.data.toList
  unfold cutB
  rw [List.length_map]
  exact List.length_pos_iff.2 this

/-- what is known in the round at k, when the pieces before are xs and the last piece begins at f -/
structure CutAt (sep : UInt8) (D : List UInt8) (xs : List ByteArray) (f k : Nat) : Prop where
  le : f ≤ k
  no : sep ∉ (D.take k).drop f
  eq : cutL sep D = xs.map (·.data.toList) ++ cutL sep (D.drop f)
theorem CutAt.start (sep : UInt8) (D : List UInt8) : CutAt sep D [] 0 0 := ⟨Nat.le_refl _, by simp, by simp⟩
theorem piece_eq (D : List UInt8) (f k : Nat) (h : f ≤ k) (hk : k ≤ D.length) : D.drop f = (D.take k).drop f ++ D.drop k := by
  have : D.drop f = (D.take k ++ D.drop k).drop f := by rw [List.take_append_drop]
  rw [this, List.drop_append_of_le_length (by simp; omega)]
theorem CutAt.pass {sep : UInt8} {D : List UInt8} {xs : List ByteArray} {f k : Nat} (h : CutAt sep D xs f k) (hk : k < D.length) (hc : D[k] ≠ sep) : CutAt sep D xs f (k + 1) := by
  refine ⟨Nat.le_succ_of_le h.le, ?_, h.eq⟩
  rw [List.take_succ_eq_append_getElem hk, List.drop_append_of_le_length (by simp; have := h.le; omega)]
  simp only [List.mem_append, List.mem_singleton, not_or]
  exact ⟨h.no, fun e => hc e.symm⟩
theorem CutAt.hit {sep : UInt8} {D : List UInt8} {xs : List ByteArray} {f k : Nat} (h : CutAt sep D xs f k) (hk : k < D.length) (hc : D[k] = sep) : CutAt sep D (xs ++ [toB ((D.take k).drop f)]) (k + 1) (k + 1) := by
  refine ⟨Nat.le_refl _, by simp, ?_⟩
  rw [h.eq, piece_eq D f k h.le (by omega), List.drop_eq_getElem_cons hk, hc, cutL_app _ h.no]
  simp
theorem CutAt.last {sep : UInt8} {D : List UInt8} {xs : List ByteArray} {f : Nat} (h : CutAt sep D xs f D.length) : (cutL sep D).map toB = xs ++ [toB (D.drop f)] := by
  have hn : sep ∉ D.drop f := by have := h.no; rwa [List.take_length] at this
  rw [h.eq, cutL_none hn, List.map_append, List.map_map]
  congr 1
  rw [show (toB ∘ fun s : ByteArray => s.data.toList) = id from funext fun s => toB_data s, List.map_id]
theorem CutAt.len {sep : UInt8} {D : List UInt8} {xs : List ByteArray} {f k : Nat} (h : CutAt sep D xs f k) : xs.length ≤ D.length := by
  have h1 := congrArg List.length h.eq
  have h2 := cutL_len sep D
  have h3 := List.length_pos_iff.2 (cutL_ne sep (D.drop f))
  simp at h1
  omega
theorem extract_piece (s : ByteArray) (f k : Nat) : s.extract f k = toB ((s.data.toList.take k).drop f) := by
  apply ByteArray.ext
  apply Array.ext'
  simp [toB, List.drop_take, List.extract_eq_take_drop]

set_option maxHeartbeats 1000000 in
theorem l1Cut_any (s : ByteArray) (c : UInt8) (w : World) (hs : s.size ≤ 1048576) :
    Calls Tryz.prog 9 #[.string s, .int .u8 c.toNat] w fun e w' => ∃ a cp, e = .returned (.slice a (cutB c s).length cp) ∧ OwnT w' w.heap.size (.slice a (cutB c s).length cp) (cutB c s) ∧ Below w.heap.size w w' := by
  obtain ⟨D, hD⟩ : ∃ D, D = s.data.toList := ⟨_, rfl⟩
  have hlen : D.length = s.size := by rw [hD]; rfl
  have hget : ∀ j (hj : j < s.size), D[j]? = some s[j] := fun j hj => by subst hD; rw [List.getElem?_eq_getElem (by omega)]; rfl
  have hpiece : ∀ f k, s.extract f k = toB ((D.take k).drop f) := fun f k => by rw [hD]; exact extract_piece s f k
  have HR := Lib.hid (show cutB c s = (cutL c D).map toB by rw [hD]; rfl)
  have HL := Lib.hid hlen
  have HG := Lib.hid hget
  have HP := Lib.hid hpiece
  clear hlen hget hpiece hD
  go_enter Tryz.func9, Tryz.ntmps9
  go_wp2_with fail
  go_loopw [5, 6, 7] (fun v f k wr => ∃ (q j : Nat) (xs : List ByteArray), j ≤ s.size ∧ q ≤ j ∧ f = .int .i64 q ∧ k = .int .i64 j ∧ CutAt c D xs q j ∧ OwnT wr w.heap.size v xs ∧ Below w.heap.size w wr) (fun _ _ k _ => s.size - (intOf k).toNat)
  case atStart => exact ⟨0, 0, [], by omega, by omega, rfl, rfl, CutAt.start c D, KOwn.lit w _ (Nat.le_refl _), (by repeat (first | with_reducible assumption | exact Below.refl _ _ | refine below_drewN ?_ _ | refine Below.drew ?_ | refine Below.alloc ?_ (by first | omega | (simp; done) | (simp; omega)) _ | refine Below.setCell ?_ (by first | omega | (simp; done) | (simp; omega)) _))⟩
  case round =>
    obtain ⟨q, j, xs, hj, hq, rfl, rfl, hc, ho, hb⟩ := hrel
    have hxl : xs.length ≤ s.size := by have := hc.len; have := HL.out; omega
    obtain ⟨av, cv, rfl⟩ := ho.sl
    have hz := hb.size
    by_cases hlt : j < s.size
    · have hg := HG.out j hlt
      by_cases he : s[j] = c
      · have h1 : s[j].toNat = c.toNat := by rw [he]
        have hn := hc.hit (by rw [HL.out]; exact hlt) ((List.getElem?_eq_some_iff.1 hg).2.trans he)
        obtain ⟨p, hp⟩ : ∃ p, s.extract q j = p := ⟨_, rfl⟩
        have HP2 := Lib.hid ((HP.out q j).symm.trans hp)
        have HN := Lib.hid hn
        clear hn hc he hg
        have hxl2 : xs.length ≤ 1048576 := by omega
        go_wp2_with (at_builtin; refine wpList_kApp strI _ _ rfl rfl w.heap.size _ xs [p] (some ⟨wr.heap.size, 0, none⟩) 1 rfl (ho.alloc _) rfl (strHere _ _ _) (by omega) (by simp) (by simp; omega) ?_; rintro av5 cv5 w5 o5 - b5 -)
        go_roundw
        case rel =>
          refine ⟨j + 1, j + 1, xs ++ [p], by omega, by omega, by first | rfl | go_num, by first | rfl | go_num, ?_, (by rw [List.length_append] at o5; exact o5), (hb.alloc hz _).trans b5⟩
          have := HN.out
          rwa [HP2.out] at this
        case measure => simp [intOf]; omega
      · have h1 : ¬ s[j].toNat = c.toNat := fun e => he (UInt8.toNat_inj.1 e)
        have hn := hc.pass (by rw [HL.out]; exact hlt) (fun e => he ((List.getElem?_eq_some_iff.1 hg).2.symm.trans e))
        clear hc he hg
        go_wp2
        go_roundw
        case rel => exact ⟨q, j + 1, xs, by omega, by omega, rfl, by go_num, hn, ho, hb⟩
        case measure => simp [intOf]; omega
    · obtain rfl : j = s.size := by omega
      obtain ⟨p, hp⟩ : ∃ p, s.extract q s.size = p := ⟨_, rfl⟩
      have HP2 := Lib.hid ((HP.out q s.size).symm.trans hp)
      have hl := hc.no
      have hc' := hc
      rw [← HL.out] at hc'
      have HN := Lib.hid hc'.last
      have HPD := Lib.hid (show (D.take s.size).drop q = D.drop q by rw [List.take_of_length_le (by rw [HL.out]; exact Nat.le_refl _)])
      clear hc hc' hl
      have hxl2 : xs.length ≤ 1048576 := by omega
      go_wp2_with (at_builtin; refine wpList_kApp strI _ _ rfl rfl w.heap.size _ xs [p] (some ⟨wr.heap.size, 0, none⟩) 1 rfl (ho.alloc _) rfl (strHere _ _ _) (by omega) (by simp) (by simp; omega) ?_; rintro av5 cv5 w5 o5 - b5 -)
      have e : cutB c s = xs ++ [p] := by
        have h1 := HP2.out
        rw [HPD.out] at h1
        rw [HR.out, HN.out, h1]
      go_ret
      exact ⟨av5, cv5, by rw [e, List.length_append]; rfl, by rw [e]; exact o5, (hb.alloc hz _).trans b5⟩
end Go.Proofs.YtgggbapcpjfljaaGreatDoor
