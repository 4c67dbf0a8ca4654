/- Plain law of the readings: surveys and deeds read back. -/
import Derived.Test.YtgggbapcpjfljaaGreatDoorTP5
import Derived.Test.YtgggbapcpjfljaaGreatDoorTX6
namespace Go.Proofs.YtgggbapcpjfljaaGreatDoor
open Go Go.RowKit

/-! ### which bytes stand in a text -/
theorem itoa_char {n : Int} (h : -99 ≤ n ∧ n ≤ 99) {c : UInt8} (hc : c ∈ Lib.itoa n) : c = 45 ∨ (48 ≤ c.toNat ∧ c.toNat ≤ 57) := by
  obtain ⟨k, rfl⟩ := small_fin h
  exact itoa_fin k c hc
theorem legB_char {g : Lg} {c : UInt8} (hc : c ∈ (legB g).data.toList) : c = 45 ∨ c = 44 ∨ c = 58 ∨ c = 62 ∨ (48 ≤ c.toNat ∧ c.toNat ≤ 57) := by
  cases h : legOk 6 g
  · simp [legB, h] at hc
  · obtain ⟨hr1, hr2, hr3, hr4, hr5⟩ := legOk_range (by omega) h
    rw [legB_list h] at hc
    simp only [List.mem_append, List.mem_cons] at hc
    have key : ∀ {n : Int}, -99 ≤ n ∧ n ≤ 99 → c ∈ Lib.itoa n → c = 45 ∨ c = 44 ∨ c = 58 ∨ c = 62 ∨ (48 ≤ c.toNat ∧ c.toNat ≤ 57) := fun hn hm => by
      rcases itoa_char hn hm with h | h
      · exact .inl h
      · exact .inr (.inr (.inr (.inr h)))
    rcases hc with (h | h | h) | h | h | h | h | h | h
    · exact key (by omega) h
    · exact .inr (.inr (.inr (.inl h)))
    · exact key (by omega) h
    · exact .inr (.inr (.inl h))
    · exact key (by omega) h
    · exact .inr (.inl h)
    · exact key (by omega) h
    · exact .inr (.inl h)
    · exact key (by omega) h
theorem legB_no {g : Lg} {c : UInt8} (h1 : c ≠ 45) (h2 : c ≠ 44) (h3 : c ≠ 58) (h4 : c ≠ 62) (h5 : c.toNat < 48 ∨ 57 < c.toNat) : c ∉ (legB g).data.toList := by
  intro hc
  rcases legB_char hc with h | h | h | h | h
  · exact h1 h
  · exact h2 h
  · exact h3 h
  · exact h4 h
  · omega

/-! ### surveys -/
def joinL : List (List UInt8) → List UInt8
  | [] => []
  | p :: l => 59 :: (p ++ joinL l)
theorem cutL_join : ∀ (ps : List (List UInt8)) (p : List UInt8), (59 : UInt8) ∉ p → (∀ q ∈ ps, (59 : UInt8) ∉ q) → cutL 59 (p ++ joinL ps) = p :: ps
  | [], p, h, _ => by rw [joinL, List.append_nil, cutL_none h]
  | q :: ps, p, h, hq => by
    rw [joinL, cutL_app _ h, cutL_join ps q (hq q (by simp)) (fun x hx => hq x (by simp [hx]))]
theorem legsB_list : ∀ (l : List Lg) (t : ByteArray), (legsB t l).data.toList = t.data.toList ++ joinL (l.map fun g => (legB g).data.toList)
  | [], t => by simp [legsB, joinL]
  | g :: l, t => by
    rw [legsB, legsB_list l]
    simp [joinL]
theorem surveyB_cut {s : Sv} (h : svOk s = true) : cutL 59 (surveyB s).data.toList = Lib.itoa s.st :: s.legs.map fun g => (legB g).data.toList := by
  have h' := svOk_iff.1 h
  rw [surveyB, if_pos h, legsB_list]
  refine cutL_join _ _ ?_ ?_
  · exact itoa_no (n := s.st) (by omega) (by decide) (by decide)
  · intro q hq
    obtain ⟨g, _, rfl⟩ := List.mem_map.1 hq
    exact legB_no (by decide) (by decide) (by decide) (by decide) (by decide)
theorem svOk_leg {s : Sv} (h : svOk s = true) {g : Lg} (hg : g ∈ s.legs) : legOk 6 g = true := by
  have h' := svOk_iff.1 h
  have := List.all_eq_true.1 h'.2.2.2 g hg
  simp only [legOk, isIdx, isIn, Bool.and_eq_true, decide_eq_true_eq, Bool.not_eq_true', Bool.or_eq_false_iff, decide_eq_false_iff_not] at this ⊢
  omega

/-- legs, one for each text, as far as all are texts of legs -/
def rdLegs : List ByteArray → Option (List Lg)
  | [] => some []
  | t :: l => match rdLeg t with
    | some g => match rdLegs l with
      | some gs => some (g :: gs)
      | none => none
    | none => none
theorem rdLegs_text : ∀ (l : List Lg), (∀ g ∈ l, legOk 6 g = true) → rdLegs (l.map legB) = some l
  | [], _ => rfl
  | g :: l, h => by
    rw [List.map_cons, rdLegs, rdLeg_iff.2 ⟨h g (by simp), rfl⟩, rdLegs_text l (fun x hx => h x (by simp [hx]))]
/-- the survey that a text seems to be -/
def candS (s : ByteArray) : Option Sv := match rdLegs (cutB 59 s).tail with
  | some l => some ⟨rdL (nth (cutB 59 s) 0).data.toList, l⟩
  | none => none
def rdSv (s : ByteArray) : Option Sv := match candS s with
  | some x => if surveyB x = s ∧ s.size ≠ 0 then some x else none
  | none => none
def rdSvD (s : ByteArray) : Sv × Bool := match rdSv s with
  | some x => (x, true)
  | none => (zeroSv, false)
theorem surveyB_cutB {s : Sv} (h : svOk s = true) : cutB 59 (surveyB s) = itoaB s.st :: s.legs.map legB := by
  unfold cutB
  rw [surveyB_cut h]
  simp only [List.map_cons, List.map_map]
  rw [show (toB ∘ fun g => (legB g).data.toList) = legB from funext fun g => toB_data _]
  rfl
theorem candS_text {s : Sv} (h : svOk s = true) : candS (surveyB s) = some s := by
  have h' := svOk_iff.1 h
  unfold candS
  rw [surveyB_cutB h, List.tail_cons, rdLegs_text _ (fun g hg => svOk_leg h hg)]
  show some (⟨rdL (itoaB s.st).data.toList, s.legs⟩ : Sv) = some s
  rw [show (itoaB s.st).data.toList = Lib.itoa s.st by simp [itoaB], rdL_itoa (by omega)]
theorem itoaB_pos (n : Int) : 0 < (Lib.itoa n).length := by
  unfold Lib.itoa
  split
  · simp
  · rw [Lib.decDigits]; split <;> simp
theorem surveyB_pos {s : Sv} (h : svOk s = true) : (surveyB s).size ≠ 0 := by
  have e : (surveyB s).size = (surveyB s).data.toList.length := rfl
  rw [e, surveyB, if_pos h, legsB_list, List.length_append]
  have := itoaB_pos s.st
  have e2 : (itoaB s.st).data.toList = Lib.itoa s.st := by simp [itoaB]
  rw [e2]; omega
theorem surveyB_size0 {s : Sv} (h : (surveyB s).size ≠ 0) : svOk s = true := by
  unfold surveyB at h
  split at h
  · assumption
  · exact absurd rfl h
theorem rdSv_iff {s : ByteArray} {x : Sv} : rdSv s = some x ↔ svOk x = true ∧ surveyB x = s := by
  unfold rdSv
  constructor
  · intro h
    split at h
    · split at h
      · rename_i hc; obtain rfl := Option.some.inj h; exact ⟨surveyB_size0 (by rw [hc.1]; exact hc.2), hc.1⟩
      · cases h
    · cases h
  · rintro ⟨h, rfl⟩
    rw [candS_text h]
    show (if surveyB x = surveyB x ∧ (surveyB x).size ≠ 0 then some x else none) = some x
    rw [if_pos ⟨rfl, surveyB_pos h⟩]
theorem rdSv_no {s : ByteArray} (hc : ∀ x, svOk x = true → surveyB x ≠ s) : rdSv s = none := by
  cases hr : rdSv s with
  | none => rfl
  | some g' =>
    obtain ⟨h1, h2⟩ := rdSv_iff.1 hr
    exact absurd h2 (hc g' h1)
theorem rdSv_cand {s : ByteArray} {g : Sv} (hc : ∀ g', svOk g' = true → surveyB g' = s → g' = g) : rdSv s = if surveyB g = s ∧ s.size ≠ 0 then some g else none := by
  split
  · rename_i h; exact rdSv_iff.2 ⟨surveyB_size0 (by rw [h.1]; exact h.2), h.1⟩
  · rename_i h
    cases hr : rdSv s with
    | none => rfl
    | some g' =>
      obtain ⟨h1, h2⟩ := rdSv_iff.1 hr
      obtain rfl := hc g' h1 h2
      exact absurd ⟨h2, by rw [← h2]; exact surveyB_pos h1⟩ h

/-! ### deeds -/
def kindF (t : ByteArray) : Int := if t = nameB 5 then 5 else if t = nameB 4 then 4 else if t = nameB 3 then 3 else if t = nameB 2 then 2 else if t = nameB 1 then 1 else if t = nameB 0 then 0 else -1
theorem kindF_name {k : Int} (h : 0 ≤ k ∧ k ≤ 5) : kindF (nameB k) = k := by
  have : k = 0 ∨ k = 1 ∨ k = 2 ∨ k = 3 ∨ k = 4 ∨ k = 5 := by omega
  rcases this with rfl | rfl | rfl | rfl | rfl | rfl <;> decide
theorem nameB_no (k : Int) : (32 : UInt8) ∉ (nameB k).data.toList := by
  unfold nameB
  repeat' (first | split | decide)
/-- the deed that a text seems to be -/
def candD (ws : List ByteArray) : Dd := ⟨kindF (nth ws 0), if 1 < ws.length then rdL (nth ws 1).data.toList else 0, if 2 < ws.length then (rdLegD (nth ws 2)).1 else noLeg⟩
def rdDd (s : ByteArray) : Option Dd := if deedB (candD (cutB 32 s)) = s ∧ s.size ≠ 0 then some (candD (cutB 32 s)) else none
def rdDdD (s : ByteArray) : Dd × Bool := match rdDd s with
  | some x => (x, true)
  | none => (noDd, false)
theorem deedB_words {d : Dd} (h : ddIn d = true) : cutB 32 (deedB d) = if d.kind = 0 ∨ d.kind = 3 then [nameB d.kind, itoaB d.index, legB d.leg] else if d.kind < 4 then [nameB d.kind, itoaB d.index] else [nameB d.kind] := by
  have h' := h
  unfold ddIn at h'
  simp only [Bool.and_eq_true, inB, decide_eq_true_eq] at h'
  have hi : -99 ≤ d.index ∧ d.index ≤ 99 := by omega
  have e2 : (itoaB d.index).data.toList = Lib.itoa d.index := by simp [itoaB]
  have n2 : (32 : UInt8) ∉ Lib.itoa d.index := itoa_no hi (by decide) (by decide)
  have n3 : (32 : UInt8) ∉ (legB d.leg).data.toList := legB_no (by decide) (by decide) (by decide) (by decide) (by decide)
  have n1 := nameB_no d.kind
  unfold cutB deedB
  rw [if_pos h]
  split
  · have e : (nameB d.kind ++ ((⟨#[32]⟩ : ByteArray) ++ itoaB d.index) ++ ((⟨#[32]⟩ : ByteArray) ++ legB d.leg)).data.toList = (nameB d.kind).data.toList ++ 32 :: (Lib.itoa d.index ++ 32 :: (legB d.leg).data.toList) := by simp [e2]
    rw [e, cutL_app _ n1, cutL_app _ n2, cutL_none n3]
    simp only [List.map_cons, List.map_nil, toB_data]
    rfl
  · split
    · have e : (nameB d.kind ++ ((⟨#[32]⟩ : ByteArray) ++ itoaB d.index)).data.toList = (nameB d.kind).data.toList ++ 32 :: Lib.itoa d.index := by simp [e2]
      rw [e, cutL_app _ n1, cutL_none n2]
      simp only [List.map_cons, List.map_nil, toB_data]
      rfl
    · rw [cutL_none n1]
      simp only [List.map_cons, List.map_nil, toB_data]
theorem candD_text {d : Dd} (h : ddIn d = true) : candD (cutB 32 (deedB d)) = d := by
  rw [deedB_words h]
  have h' := h
  unfold ddIn at h'
  simp only [Bool.and_eq_true, inB, decide_eq_true_eq, Bool.or_eq_true, Bool.not_eq_true', Bool.or_eq_false_iff, decide_eq_false_iff_not] at h'
  obtain ⟨⟨⟨hk, hi⟩, h45⟩, hl⟩ := h'
  have e2 : (itoaB d.index).data.toList = Lib.itoa d.index := by simp [itoaB]
  have e3 : rdL (itoaB d.index).data.toList = d.index := by rw [e2, rdL_itoa (by omega)]
  obtain ⟨kd, ix, g⟩ := d
  simp only at hk hi h45 hl e3 ⊢
  by_cases h03 : kd = 0 ∨ kd = 3
  · rw [if_pos h03] at hl ⊢
    have e4 : rdLegD (legB g) = (g, true) := rdLegD_some (rdLeg_iff.2 ⟨hl, rfl⟩)
    simp [candD, nth, kindF_name hk, e3, e4]
  · rw [if_neg h03] at hl ⊢
    have hg : g = noLeg := by simpa using hl
    by_cases h4 : kd < 4
    · rw [if_pos h4]
      simp [candD, nth, kindF_name hk, e3, hg]
    · rw [if_neg h4]
      have : ix = 0 := by omega
      simp [candD, nth, kindF_name hk, hg, this]
theorem deedB_size0 {d : Dd} (h : (deedB d).size ≠ 0) : ddIn d = true := by
  unfold deedB at h
  by_cases hc : ddIn d = true
  · exact hc
  · rw [if_neg hc] at h; exact absurd rfl h
theorem nameB_pos (k : Int) : (nameB k).size ≠ 0 := by
  unfold nameB
  repeat' (first | split | decide)
theorem deedB_pos {d : Dd} (h : ddIn d = true) : (deedB d).size ≠ 0 := by
  have := nameB_pos d.kind
  unfold deedB
  rw [if_pos h]
  split
  · simp only [ByteArray.size_append]; omega
  · split
    · simp only [ByteArray.size_append]; omega
    · exact this
theorem rdDd_iff {s : ByteArray} {d : Dd} : rdDd s = some d ↔ ddIn d = true ∧ deedB d = s := by
  unfold rdDd
  constructor
  · intro h
    split at h
    · rename_i hc; obtain rfl := Option.some.inj h; exact ⟨deedB_size0 (by rw [hc.1]; exact hc.2), hc.1⟩
    · cases h
  · rintro ⟨h, rfl⟩
    rw [candD_text h, if_pos ⟨rfl, deedB_pos h⟩]
theorem rdDd_no {s : ByteArray} (hc : ∀ x, ddIn x = true → deedB x ≠ s) : rdDd s = none := by
  cases hr : rdDd s with
  | none => rfl
  | some g' =>
    obtain ⟨h1, h2⟩ := rdDd_iff.1 hr
    exact absurd h2 (hc g' h1)
theorem rdDd_cand {s : ByteArray} {g : Dd} (hc : ∀ g', ddIn g' = true → deedB g' = s → g' = g) : rdDd s = if deedB g = s ∧ s.size ≠ 0 then some g else none := by
  split
  · rename_i h; exact rdDd_iff.2 ⟨deedB_size0 (by rw [h.1]; exact h.2), h.1⟩
  · rename_i h
    cases hr : rdDd s with
    | none => rfl
    | some g' =>
      obtain ⟨h1, h2⟩ := rdDd_iff.1 hr
      obtain rfl := hc g' h1 h2
      exact absurd ⟨h2, by rw [← h2]; exact deedB_pos h1⟩ h
end Go.Proofs.YtgggbapcpjfljaaGreatDoor
