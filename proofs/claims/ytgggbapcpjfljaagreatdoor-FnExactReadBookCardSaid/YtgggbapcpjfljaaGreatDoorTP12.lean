/- Plain law of the readings of deeds: names found one by one; what SplitN and Atoi give. -/
import Derived.Test.YtgggbapcpjfljaaGreatDoorTP11
namespace Go.Proofs.YtgggbapcpjfljaaGreatDoor
open Go Go.RowKit Go.Sort

theorem run_strEq (a b : ByteArray) : (a.toList == b.toList) = decide (a = b) := by
  rw [Lib.toList_data, Lib.toList_data]
  by_cases h : a = b
  · subst h; simp
  · have h2 : ¬ a.data = b.data := fun e => h (ByteArray.ext e)
    simp [h, h2]
theorem strEq_prop (a b : ByteArray) : (a.toList = b.toList) = (a = b) := by
  rw [Lib.toList_data, Lib.toList_data]
  exact propext ⟨fun e => ByteArray.ext (Array.ext' e), fun e => by rw [e]⟩
/-- the last name among the first k that the text is -/
def kindU (t : ByteArray) : Nat → Int
  | 0 => -1
  | k + 1 => if t = nameB (k : Int) then (k : Int) else kindU t k
theorem kindU_six (t : ByteArray) : kindU t 6 = kindF t := rfl
theorem kindU_range (t : ByteArray) : ∀ k, -1 ≤ kindU t k ∧ kindU t k ≤ k
  | 0 => by simp [kindU]
  | k + 1 => by
    have := kindU_range t k
    unfold kindU
    split <;> omega
theorem rdDdD_yes {s : ByteArray} (h : deedB (candD (cutB 32 s)) = s) (h0 : s.size ≠ 0) : rdDdD s = (candD (cutB 32 s), true) := by
  unfold rdDdD rdDd
  rw [if_pos ⟨h, h0⟩]
theorem rdDdD_not {s : ByteArray} (h : ¬ (deedB (candD (cutB 32 s)) = s ∧ s.size ≠ 0)) : rdDdD s = (noDd, false) := by
  unfold rdDdD rdDd
  rw [if_neg h]
theorem rdDdD_some {s : ByteArray} {d : Dd} (h : rdDd s = some d) : rdDdD s = (d, true) := by unfold rdDdD; rw [h]
theorem rdDdD_none {s : ByteArray} (h : rdDd s = none) : rdDdD s = (noDd, false) := by unfold rdDdD; rw [h]

theorem count_cutL (c : UInt8) : ∀ l : List UInt8, (cutL c l).length = l.count c + 1
  | [] => by simp [cutL]
  | b :: r => by
    have ih := count_cutL c r
    rw [cutL, List.count_cons]
    by_cases h : b = c
    · subst h
      simp [ih]
    · have hb : (b == c) = false := by simpa using h
      rw [if_neg h, hb]
      cases hq : cutL c r with
      | nil => rw [hq] at ih; simp at ih
      | cons p ps => rw [hq] at ih; simpa using ih
/-- the words that SplitN finds -/
def wordsI (s : ByteArray) : List ByteArray := Lib.splitB ⟨#[32]⟩ 0 (min 4 (s.size + 1) - 1) s
theorem wordsI_text {d : Dd} (h : ddIn d = true) : wordsI (deedB d) = cutB 32 (deedB d) := by
  refine splitB_cut ?_
  have hl : (cutB 32 (deedB d)).length ≤ 3 := by
    rw [deedB_words h]
    split
    · simp
    · split <;> simp
  have hc := count_cutL 32 (deedB d).data.toList
  have e : (cutB 32 (deedB d)).length = (cutL 32 (deedB d).data.toList).length := by simp [cutB]
  have hsz := List.count_le_length (a := (32 : UInt8)) (l := (deedB d).data.toList)
  have e2 : (deedB d).data.toList.length = (deedB d).size := rfl
  omega
theorem splitB_pos (sep : ByteArray) (k : Nat) (s : ByteArray) : 0 < (Lib.splitB sep 0 k s).length := by
  cases k with
  | zero => simp [Lib.splitB]
  | succ k => unfold Lib.splitB; split <;> simp
theorem wordsI_len (s : ByteArray) : 0 < (wordsI s).length ∧ (wordsI s).length ≤ 4 := by
  refine ⟨splitB_pos _ _ _, ?_⟩
  have := Lib.splitB_length_le ⟨#[32]⟩ 0 (min 4 (s.size + 1) - 1) s
  unfold wordsI
  omega
theorem splitB_size (sep : ByteArray) : ∀ (k : Nat) (s : ByteArray), ∀ p ∈ Lib.splitB sep 0 k s, p.size ≤ s.size
  | 0, s, p, h => by simp [Lib.splitB] at h; subst h; exact Nat.le_refl _
  | k + 1, s, p, h => by
    unfold Lib.splitB at h
    split at h
    · simp at h; subst h; exact Nat.le_refl _
    · rcases List.mem_cons.1 h with rfl | h
      · simp [ByteArray.size_extract]; omega
      · have := splitB_size sep k _ p h
        simp [ByteArray.size_extract] at this
        omega
theorem wordsI_size (s : ByteArray) {j : Nat} (h : j < (wordsI s).length) : (nth (wordsI s) j).size ≤ s.size := splitB_size _ _ _ _ (nth_mem h)
/-- a deed's text in SplitN's words -/
theorem ddI_words {s : ByteArray} {d : Dd} (h : ddIn d = true) (e : deedB d = s) : kindF (nth (wordsI s) 0) = d.kind ∧ (1 < (wordsI s).length → atoF (nth (wordsI s) 1) = some d.index) ∧ (¬ 1 < (wordsI s).length → d.index = 0) ∧ (2 < (wordsI s).length → rdLeg (nth (wordsI s) 2) = some d.leg) ∧ (¬ 2 < (wordsI s).length → d.leg = noLeg) := by
  subst e
  rw [wordsI_text h, deedB_words h]
  have h' := h
  unfold ddIn at h'
  simp only [Bool.and_eq_true, inB, decide_eq_true_eq, Bool.or_eq_true, Bool.not_eq_true', Bool.or_eq_false_iff, decide_eq_false_iff_not] at h'
  obtain ⟨⟨⟨hk, hi⟩, h45⟩, hl⟩ := h'
  have hkn := kindF_name hk
  have ha := atoF_itoa (n := d.index) (by omega)
  by_cases h03 : d.kind = 0 ∨ d.kind = 3
  · rw [if_pos h03] at hl ⊢
    exact ⟨hkn, fun _ => ha, fun h => absurd (show 1 < 3 by decide) h, fun _ => rdLeg_iff.2 ⟨hl, rfl⟩, fun h => absurd (show 2 < 3 by decide) h⟩
  · rw [if_neg h03] at hl ⊢
    have hg : d.leg = noLeg := by simpa using hl
    by_cases h4 : d.kind < 4
    · rw [if_pos h4]
      exact ⟨hkn, fun _ => ha, fun h => absurd (show 1 < 2 by decide) h, fun h => absurd h (show ¬ 2 < 2 by decide), fun _ => hg⟩
    · rw [if_neg h4]
      exact ⟨hkn, fun h => absurd h (show ¬ 1 < 1 by decide), fun _ => by omega, fun h => absurd h (show ¬ 2 < 1 by decide), fun _ => hg⟩
theorem ddI_bad1 {s : ByteArray} (h1 : 1 < (wordsI s).length) (h : atoF (nth (wordsI s) 1) = none) : rdDdD s = (noDd, false) :=
  rdDdD_none (rdDd_no fun d hd e => by
    have := (ddI_words hd e).2.1 h1
    rw [h] at this; cases this)
theorem ddI_bad2 {s : ByteArray} (h1 : 2 < (wordsI s).length) (h : (rdLegD (nth (wordsI s) 2)).2 = false) : rdDdD s = (noDd, false) :=
  rdDdD_none (rdDd_no fun d hd e => by
    have := (ddI_words hd e).2.2.2.1 h1
    rw [rdLegD_some this] at h; cases h)
theorem ddI_cand {s : ByteArray} (h0 : s.size ≠ 0) {v : Int} {g : Lg} (h1 : 1 < (wordsI s).length → atoF (nth (wordsI s) 1) = some v) (h2 : ¬ 1 < (wordsI s).length → v = 0) (h3 : 2 < (wordsI s).length → rdLegD (nth (wordsI s) 2) = (g, true)) (h4 : ¬ 2 < (wordsI s).length → g = noLeg) :
    rdDdD s = if deedB ⟨kindF (nth (wordsI s) 0), v, g⟩ = s then (⟨kindF (nth (wordsI s) 0), v, g⟩, true) else (noDd, false) := by
  have hc := rdDd_cand (s := s) (g := ⟨kindF (nth (wordsI s) 0), v, g⟩) fun d hd e => by
    obtain ⟨k1, k2, k3, k4, k5⟩ := ddI_words hd e
    have e1 : d.index = v := by
      by_cases h : 1 < (wordsI s).length
      · have := k2 h; rw [h1 h] at this; exact (Option.some.inj this).symm
      · rw [k3 h, h2 h]
    have e2 : d.leg = g := by
      by_cases h : 2 < (wordsI s).length
      · have := rdLegD_some (k4 h); rw [h3 h] at this; injection this with this _; exact this.symm
      · rw [k5 h, h4 h]
    obtain ⟨a, b, c⟩ := d
    simp only at k1 e1 e2
    rw [k1, e1, e2]
  by_cases hl : deedB ⟨kindF (nth (wordsI s) 0), v, g⟩ = s
  · rw [if_pos ⟨hl, h0⟩] at hc
    rw [if_pos hl]
    exact rdDdD_some hc
  · rw [if_neg (fun h => hl h.1)] at hc
    rw [if_neg hl]
    exact rdDdD_none hc
theorem rdLegD_no {s : ByteArray} (h : (rdLegD s).2 = false) : (rdLegD s).1 = noLeg := by
  unfold rdLegD at h ⊢
  cases hr : rdLeg s with
  | none => rfl
  | some g => rw [hr] at h; cases h

theorem splitN_any (s : ByteArray) (w : World) (hs : s.size ≤ 1048576) (hw : Lby w) :
    Calls Tryz.prog 39 #[.string s, .string ⟨#[32]⟩, .int .i64 4] w fun e w' => e = .returned (.slice (some ⟨w.heap.size, 0, none⟩) (wordsI s).length (min 4 (s.size + 1))) ∧ w.alloc (.cells (Lib.cellsOf (wordsI s) (min 4 (s.size + 1))) 9) = w' := by
  obtain ⟨m, hm⟩ := hw.maxl
  refine (Tryz.strings_SplitN s ⟨#[32]⟩ 4 m w (by omega) hm (Nat.le_refl 1) (by decide) (by decide)).mono fun e w' he => ?_
  exact ⟨he.1, he.2.symm⟩
theorem cellsOf_nth (ws : List ByteArray) (n : Nat) {j : Nat} (h : j < ws.length) : (Lib.cellsOf ws n).toList[j]? = some (.string (nth ws j)) := by
  unfold Lib.cellsOf
  simp only
  rw [List.getElem?_append_left (by simpa using h), List.getElem?_map, getElem?_nth h]
  rfl
end Go.Proofs.YtgggbapcpjfljaaGreatDoor
