/- The plain law of reading a book: the first line is a survey, the further lines are deeds done one upon the other. No program. Plain law of texts of books: a book's text is read back; what is read of a text, and of its beginnings. No program. -/
import Derived.Test.YtcilgpmeliegoaaGreatDoorT5
import Derived.Test.YtcilgpmeliegoaaGreatDoorK7
import Derived.Test.YtcilgpmeliegoaaGreatDoorT1
set_option linter.unusedSimpArgs false
set_option linter.unusedVariables false
namespace Go.Proofs.YtcilgpmeliegoaaGreatDoor
open Go Go.RowKit Go.Sort

/-- deeds read from lines and done, up to so many; with the bytes read -/
def rdDs : Nat → Sv → List ByteArray → List Dd × Nat
  | 0, _, _ => ([], 0)
  | _ + 1, _, [] => ([], 0)
  | m + 1, now, t :: l =>
    if (rdDdD t).2 = true ∧ (ddDo now (rdDdD t).1).2 = true then
      ((rdDdD t).1 :: (rdDs m (ddDo now (rdDdD t).1).1 l).1, t.size + 1 + (rdDs m (ddDo now (rdDdD t).1).1 l).2)
    else ([], 0)
/-- a reading under way: these deeds and bytes are read, so stands the survey -/
def Rding (sv : Sv) (ls : List ByteArray) (ds : List Dd) (n : Nat) (now : Sv) : Prop :=
  rdDs 40 sv ls = (ds ++ (rdDs (40 - ds.length) now (ls.drop ds.length)).1, n + (rdDs (40 - ds.length) now (ls.drop ds.length)).2)
theorem Rding.start (sv : Sv) (ls : List ByteArray) : Rding sv ls [] 0 sv := by
  unfold Rding
  simp
theorem rdDs_one {m : Nat} {now : Sv} {t : ByteArray} {l : List ByteArray} {d : Dd} {s : Sv} (h1 : rdDdD t = (d, true)) (h2 : ddDo now d = (s, true)) : rdDs (m + 1) now (t :: l) = (d :: (rdDs m s l).1, t.size + 1 + (rdDs m s l).2) := by
  rw [rdDs, h1]
  simp only
  rw [h2]
  simp
theorem Rding.next {sv : Sv} {ls : List ByteArray} {ds : List Dd} {n : Nat} {now : Sv} (h : Rding sv ls ds n now) (h40 : ds.length < 40) (hl : ds.length < ls.length) {d : Dd} {s : Sv} (h1 : rdDdD (nth ls ds.length) = (d, true)) (h2 : ddDo now d = (s, true)) : Rding sv ls (ds ++ [d]) (n + (nth ls ds.length).size + 1) s := by
  unfold Rding at h ⊢
  obtain ⟨m, hm⟩ : ∃ m, 40 - ds.length = m + 1 := ⟨39 - ds.length, by omega⟩
  rw [h, hm, drop_nth hl, rdDs_one h1 h2, List.length_append, List.length_singleton, show 40 - (ds.length + 1) = m by omega]
  simp only [List.append_assoc, List.singleton_append, Prod.mk.injEq, true_and]
  omega
theorem Rding.full {sv : Sv} {ls : List ByteArray} {ds : List Dd} {n : Nat} {now : Sv} (h : Rding sv ls ds n now) (h40 : 40 ≤ ds.length) : rdDs 40 sv ls = (ds, n) := by
  unfold Rding at h
  rw [h, show 40 - ds.length = 0 by omega, rdDs]
  simp
theorem Rding.out {sv : Sv} {ls : List ByteArray} {ds : List Dd} {n : Nat} {now : Sv} (h : Rding sv ls ds n now) (hl : ls.length ≤ ds.length) : rdDs 40 sv ls = (ds, n) := by
  unfold Rding at h
  rw [h, List.drop_eq_nil_of_le hl]
  cases 40 - ds.length <;> simp [rdDs]
theorem Rding.bad {sv : Sv} {ls : List ByteArray} {ds : List Dd} {n : Nat} {now : Sv} (h : Rding sv ls ds n now) (hl : ds.length < ls.length) (h1 : ¬ ((rdDdD (nth ls ds.length)).2 = true ∧ (ddDo now (rdDdD (nth ls ds.length)).1).2 = true)) : rdDs 40 sv ls = (ds, n) := by
  unfold Rding at h
  rw [h, drop_nth hl]
  cases 40 - ds.length with
  | zero => simp [rdDs]
  | succ m => rw [rdDs, if_neg h1]; simp
theorem Rding.noDeed {sv : Sv} {ls : List ByteArray} {ds : List Dd} {n : Nat} {now : Sv} (h : Rding sv ls ds n now) (hl : ds.length < ls.length) {d : Dd} (h1 : rdDdD (nth ls ds.length) = (d, false)) : rdDs 40 sv ls = (ds, n) := h.bad hl (by rw [h1]; simp)
theorem Rding.noDo {sv : Sv} {ls : List ByteArray} {ds : List Dd} {n : Nat} {now : Sv} (h : Rding sv ls ds n now) (hl : ds.length < ls.length) {d : Dd} {b : Bool} (h1 : rdDdD (nth ls ds.length) = (d, b)) {s : Sv} (h2 : ddDo now d = (s, false)) : rdDs 40 sv ls = (ds, n) := h.bad hl (by rw [h1]; simp [h2])

/-- a book read, with the bytes read -/
def rdBk (s : ByteArray) : (Bk × Nat) × Bool :=
  if 2 ≤ (cutB 10 s).length ∧ (rdSvD (nth (cutB 10 s) 0)).2 = true then
    ((⟨(rdSvD (nth (cutB 10 s) 0)).1, (rdDs 40 (rdSvD (nth (cutB 10 s) 0)).1 (cutB 10 s).tail.dropLast).1, []⟩, (nth (cutB 10 s) 0).size + 1 + (rdDs 40 (rdSvD (nth (cutB 10 s) 0)).1 (cutB 10 s).tail.dropLast).2), true)
  else ((⟨zeroSv, [], []⟩, 0), false)
theorem rdBk_few {s : ByteArray} (h : (cutB 10 s).length < 2) : rdBk s = ((⟨zeroSv, [], []⟩, 0), false) := by
  unfold rdBk
  rw [if_neg (by omega)]
theorem rdBk_no {s : ByteArray} {v : Sv} (h : rdSvD (nth (cutB 10 s) 0) = (v, false)) : rdBk s = ((⟨zeroSv, [], []⟩, 0), false) := by
  unfold rdBk
  rw [if_neg (by rw [h]; simp)]
theorem rdBk_yes {s : ByteArray} {v : Sv} (h : rdSvD (nth (cutB 10 s) 0) = (v, true)) (h2 : 2 ≤ (cutB 10 s).length) {ds : List Dd} {n : Nat} (hd : rdDs 40 v (cutB 10 s).tail.dropLast = (ds, n)) : rdBk s = ((⟨v, ds, []⟩, (nth (cutB 10 s) 0).size + 1 + n), true) := by
  unfold rdBk
  rw [if_pos ⟨h2, by rw [h]⟩, h]
  simp only
  rw [hd]
theorem rdSvD_lenT (s : ByteArray) : (rdSvD s).1.legs.length ≤ 9 := by
  unfold rdSvD
  cases h : rdSv s with
  | none => simp [zeroSv]
  | some x => exact (svOk_iff.1 (rdSv_iff.1 h).1).2.2.1
theorem nth_drop_last {l : List ByteArray} {k : Nat} (hk : k + 1 < l.length) : nth l.dropLast k = nth l k := by
  have h1 : l.dropLast[k]? = l[k]? := by
    rw [List.getElem?_dropLast]
    exact if_pos (by omega)
  unfold nth
  first
    | rw [h1]
    | (simp only [List.getElem!_eq_getElem?_getD, h1])
    | (simp only [List.getD, h1])
end Go.Proofs.YtcilgpmeliegoaaGreatDoor

namespace Go.Proofs.YtcilgpmeliegoaaGreatDoor
open Go Go.RowKit

def lineL (d : Dd) : List UInt8 := (deedB d).data.toList ++ [10]
theorem linesB_list : ∀ (l : List Dd) (t : ByteArray), (linesB t l).data.toList = t.data.toList ++ l.flatMap lineL
  | [], t => by simp [linesB]
  | d :: l, t => by
    rw [linesB, linesB_list l]
    simp [lineL]
theorem cut_lines : ∀ (qs : List (List UInt8)), (∀ q ∈ qs, (10 : UInt8) ∉ q) → cutL 10 (qs.flatMap (· ++ [10])) = qs ++ [[]]
  | [], _ => rfl
  | q :: qs, h => by
    have e : (q :: qs).flatMap (· ++ [(10 : UInt8)]) = q ++ 10 :: qs.flatMap (· ++ [10]) := by simp
    rw [e, cutL_app _ (h q (by simp)), cut_lines qs fun x hx => h x (by simp [hx])]
    rfl
theorem nameB_no10 (k : Int) : (10 : UInt8) ∉ (nameB k).data.toList := by
  unfold nameB
  repeat' (first | split | decide)
theorem deedB_no10 {d : Dd} (h : ddIn d = true) : (10 : UInt8) ∉ (deedB d).data.toList := by
  have h' := h
  unfold ddIn at h'
  simp only [Bool.and_eq_true, inB, decide_eq_true_eq] at h'
  have n2 : (10 : UInt8) ∉ (itoaB d.index).data.toList := by
    rw [show (itoaB d.index).data.toList = Lib.itoa d.index by simp [itoaB]]
    exact itoa_no (by omega) (by decide) (by decide)
  have n3 : (10 : UInt8) ∉ (legB d.leg).data.toList := legB_no (by decide) (by decide) (by decide) (by decide) (by decide)
  have n1 := nameB_no10 d.kind
  unfold deedB
  rw [if_pos h]
  split
  · simp [n1, n2, n3]
  · split
    · simp [n1, n2]
    · exact n1
theorem joinL_no10 : ∀ (l : List (List UInt8)), (∀ q ∈ l, (10 : UInt8) ∉ q) → (10 : UInt8) ∉ joinL l
  | [], _ => by simp [joinL]
  | q :: l, h => by
    have := joinL_no10 l fun x hx => h x (by simp [hx])
    have := h q (by simp)
    simp [joinL, *]
theorem surveyB_no10 {s : Sv} (h : svOk s = true) : (10 : UInt8) ∉ (surveyB s).data.toList := by
  unfold surveyB
  rw [if_pos h, legsB_list]
  obtain ⟨h1, h2, -, -⟩ := svOk_iff.1 h
  have n1 : (10 : UInt8) ∉ (itoaB s.st).data.toList := by
    rw [show (itoaB s.st).data.toList = Lib.itoa s.st by simp [itoaB]]
    exact itoa_no (by omega) (by decide) (by decide)
  have n2 := joinL_no10 (s.legs.map fun g => (legB g).data.toList) fun q hq => by
    obtain ⟨g, -, rfl⟩ := List.mem_map.1 hq
    exact legB_no (by decide) (by decide) (by decide) (by decide) (by decide)
  simp [n1, n2]

/-! ### deeds done one upon the other -/
theorem run_in : ∀ (l : List Dd) (s : Sv), (runFrom s l).2 = l.length → ∀ d ∈ l, ddIn d = true
  | [], _, _, d, hd => by cases hd
  | e :: l, s, h, d, hd => by
    by_cases he : (ddDo s e).2 = true
    · rw [runFrom_cons he] at h
      simp only [List.length_cons] at h
      rcases List.mem_cons.1 hd with rfl | hd
      · obtain ⟨h1, h2, h3⟩ := ddDo_ok he
        exact ddIn_of h1 h2 h3
      · exact run_in l (ddDo s e).1 (by omega) d hd
    · rw [runFrom_halt he] at h; simp at h
/-- how many bytes lines of deeds have -/
def lenD : List Dd → Nat
  | [] => 0
  | d :: l => (deedB d).size + 1 + lenD l
theorem lenD_flat : ∀ (l : List Dd), (l.flatMap lineL).length = lenD l
  | [] => rfl
  | d :: l => by
    rw [List.flatMap_cons, List.length_append, lenD_flat l, lenD]
    show ((deedB d).data.toList ++ [10]).length + _ = _
    rw [List.length_append]
    rfl
theorem rdDs_lines : ∀ (l : List Dd) (m : Nat) (s : Sv), l.length ≤ m → (runFrom s l).2 = l.length → rdDs m s (l.map deedB) = (l, lenD l)
  | [], m, s, _, _ => by cases m <;> rfl
  | d :: l, 0, s, hm, _ => by simp at hm
  | d :: l, m + 1, s, hm, h => by
    by_cases he : (ddDo s d).2 = true
    · rw [runFrom_cons he] at h
      simp only [List.length_cons] at h hm
      obtain ⟨h1, h2, h3⟩ := ddDo_ok he
      have hin := ddIn_of h1 h2 h3
      have hrd : rdDdD (deedB d) = (d, true) := by unfold rdDdD; rw [rdDd_iff.2 ⟨hin, rfl⟩]
      obtain ⟨t, ht⟩ : ∃ t, ddDo s d = (t, true) := ⟨(ddDo s d).1, Prod.ext rfl he⟩
      rw [ht] at h
      simp only at h
      rw [List.map_cons, rdDs_one hrd ht, rdDs_lines l m t (by omega) (by omega)]
      rfl
    · rw [runFrom_halt he] at h; simp at h

/-! ### a book's text is read back -/
theorem bookB_list {b : Bk} (h : bkOk b = true) : (bookB b).data.toList = (surveyB b.first).data.toList ++ 10 :: b.done.flatMap lineL := by
  unfold bookB
  rw [if_pos h, linesB_list]
  simp
theorem bookB_cut {b : Bk} (h : bkOk b = true) : cutB 10 (bookB b) = surveyB b.first :: (b.done.map deedB ++ [⟨#[]⟩]) := by
  obtain ⟨h1, h2, h3, -⟩ := bkOk_iff.1 h
  have hin := run_in b.done b.first h3
  unfold cutB
  rw [bookB_list h, cutL_app _ (surveyB_no10 h1)]
  have e : b.done.flatMap lineL = (b.done.map fun d => (deedB d).data.toList).flatMap (· ++ [10]) := by
    rw [List.flatMap_map]; rfl
  rw [e, cut_lines _ fun q hq => by
    obtain ⟨d, hd, rfl⟩ := List.mem_map.1 hq
    exact deedB_no10 (hin d hd)]
  simp only [List.map_cons, List.map_append, List.map_map, toB_data, List.map_nil]
  congr 2
theorem bookB_size {b : Bk} (h : bkOk b = true) : (bookB b).size = (surveyB b.first).size + 1 + lenD b.done := by
  have e := congrArg List.length (bookB_list h)
  rw [List.length_append, List.length_cons, lenD_flat] at e
  have e1 : (bookB b).size = (bookB b).data.toList.length := rfl
  have e2 : (surveyB b.first).size = (surveyB b.first).data.toList.length := rfl
  omega
theorem rdBk_text {b : Bk} (h : bkOk b = true) : rdBk (bookB b) = ((⟨b.first, b.done, []⟩, (bookB b).size), true) := by
  obtain ⟨h1, h2, h3, -⟩ := bkOk_iff.1 h
  have hc := bookB_cut h
  have e0 : nth (cutB 10 (bookB b)) 0 = surveyB b.first := by rw [hc]; rfl
  have hs : rdSvD (nth (cutB 10 (bookB b)) 0) = (b.first, true) := by rw [e0]; unfold rdSvD; rw [rdSv_iff.2 ⟨h1, rfl⟩]
  have ht : (cutB 10 (bookB b)).tail.dropLast = b.done.map deedB := by rw [hc]; simp
  have hd : rdDs 40 b.first (cutB 10 (bookB b)).tail.dropLast = (b.done, lenD b.done) := by rw [ht]; exact rdDs_lines b.done 40 b.first (by omega) h3
  rw [rdBk_yes hs (by rw [hc]; simp) hd, e0, bookB_size h]
theorem bookB_empty {b : Bk} (h : bkOk b = false) : bookB b = ⟨#[]⟩ := by unfold bookB; rw [h]; rfl
theorem lenD_le : ∀ (l : List Dd), lenD l ≤ 301 * l.length
  | [] => Nat.zero_le _
  | d :: l => by
    have := lenD_le l
    have := deedB_le d
    simp only [lenD, List.length_cons]
    omega
theorem bookB_le (b : Bk) : (bookB b).size ≤ 20000 := by
  cases h : bkOk b
  · rw [bookB_empty h]; show 0 ≤ 20000; omega
  · obtain ⟨h1, h2, h3, -⟩ := bkOk_iff.1 h
    have h4 := surveyB_le (n := b.first.st) (l := b.first.legs) h1
    have := lenD_le b.done
    rw [bookB_size h]
    have h5 : (surveyB b.first).size ≤ 2000 := h4
    omega

/-! ### what is read of a text -/
theorem rdDs_ok : ∀ (m : Nat) (s : Sv) (ls : List ByteArray), svOk s = true → (rdDs m s ls).1.length ≤ m ∧ (rdDs m s ls).1.length ≤ ls.length ∧ (runFrom s (rdDs m s ls).1).2 = (rdDs m s ls).1.length ∧ (rdDs m s ls).2 = lenD (rdDs m s ls).1 ∧ ls.take (rdDs m s ls).1.length = (rdDs m s ls).1.map deedB
  | 0, _, _, _ => by simp [rdDs, runFrom, lenD]
  | _ + 1, _, [], _ => by simp [rdDs, runFrom, lenD]
  | m + 1, s, t :: ls, hs => by
    by_cases hc : (rdDdD t).2 = true ∧ (ddDo s (rdDdD t).1).2 = true
    · obtain ⟨d, hd⟩ : ∃ d, rdDdD t = (d, true) := ⟨(rdDdD t).1, Prod.ext rfl hc.1⟩
      have hc2 := hc.2
      rw [hd] at hc2
      obtain ⟨u, hu⟩ : ∃ u, ddDo s d = (u, true) := ⟨(ddDo s d).1, Prod.ext rfl hc2⟩
      have huo : svOk u = true := by have := ddDo_valid (s := s) (d := d) hs; rw [hu] at this; exact this
      obtain ⟨i1, i2, i3, i4, i5⟩ := rdDs_ok m u ls huo
      rw [rdDs_one hd hu]
      simp only [List.length_cons, List.take_succ_cons, List.map_cons, lenD]
      rw [runFrom_cons (by rw [hu]), hu]
      obtain ⟨g1, g2⟩ := rdDdD_yes_iff hd
      exact ⟨by omega, by omega, by simp only; omega, by rw [g2]; omega, by rw [i5, g2]⟩
    · rw [rdDs, if_neg hc]
      simp [runFrom, lenD]
/-- lines of a beginning: some of the lines -/
theorem rdDs_pre : ∀ (m : Nat) (s : Sv) (l1 l2 : List ByteArray), l1 <+: l2 → (rdDs m s l1).1 <+: (rdDs m s l2).1
  | 0, _, _, _, _ => by simp [rdDs]
  | _ + 1, _, [], l2, _ => by simp [rdDs]
  | m + 1, s, t :: l1, [], h => by simp at h
  | m + 1, s, t :: l1, t2 :: l2, h => by
    obtain ⟨rfl, h'⟩ := List.cons_prefix_cons.1 h
    by_cases hc : (rdDdD t).2 = true ∧ (ddDo s (rdDdD t).1).2 = true
    · rw [rdDs, rdDs, if_pos hc, if_pos hc]
      exact List.cons_prefix_cons.2 ⟨rfl, rdDs_pre m _ l1 l2 h'⟩
    · rw [rdDs, rdDs, if_neg hc, if_neg hc]
      exact List.prefix_rfl
theorem cut_take (c : UInt8) : ∀ (n : Nat) (l : List UInt8) (j : Nat), l.length ≤ n → (cutL c (l.take j)).dropLast <+: (cutL c l).dropLast
  | n, l, j, hn => by
    by_cases hc : c ∈ l
    · obtain ⟨p, r, rfl, hp⟩ := List.eq_append_cons_of_mem hc
      by_cases hj : j ≤ p.length
      · have hno : c ∉ (p ++ c :: r).take j := by
          rw [List.take_append_of_le_length hj]
          exact fun h => hp (List.mem_of_mem_take h)
        rw [cutL_none hno]
        exact List.nil_prefix
      · cases n with
        | zero => simp at hn
        | succ n =>
          have e : (p ++ c :: r).take j = p ++ c :: r.take (j - p.length - 1) := by
            rw [List.take_append, List.take_of_length_le (by omega)]
            obtain ⟨i, hi⟩ : ∃ i, j - p.length = i + 1 := ⟨j - p.length - 1, by omega⟩
            rw [hi, List.take_succ_cons]
            rfl
          have hr : r.length ≤ n := by simp at hn; omega
          rw [e, cutL_app _ hp, cutL_app _ hp, List.dropLast_cons_of_ne_nil (cutL_ne c _), List.dropLast_cons_of_ne_nil (cutL_ne c _)]
          exact List.cons_prefix_cons.2 ⟨rfl, cut_take c n r _ hr⟩
    · have hno : c ∉ l.take j := fun h => hc (List.mem_of_mem_take h)
      rw [cutL_none hno]
      exact List.nil_prefix
theorem cut_pre (c : UInt8) : ∀ (q : Nat) (l : List UInt8), q + 1 ≤ (cutL c l).length → ((cutL c l).take q).flatMap (· ++ [c]) <+: l
  | 0, l, _ => List.nil_prefix
  | q + 1, l, h => by
    by_cases hc : c ∈ l
    · obtain ⟨p, r, rfl, hp⟩ := List.eq_append_cons_of_mem hc
      rw [cutL_app _ hp] at h ⊢
      simp only [List.length_cons] at h
      have ih := cut_pre c q r (by omega)
      rw [List.take_succ_cons, List.flatMap_cons, List.append_assoc]
      exact List.prefix_append_right_inj p |>.2 (List.cons_prefix_cons.2 ⟨rfl, ih⟩)
    · rw [cutL_none hc] at h
      simp at h

structure BkRead (s : ByteArray) (b : Bk) (n : Nat) : Prop where
  ok : bkOk b = true
  un : b.undone = []
  le : n ≤ s.size
  text : bookB b = s.extract 0 n
  two : 2 ≤ (cutB 10 s).length
  first : rdSvD (nth (cutB 10 s) 0) = (b.first, true)
theorem rdBk_read {s : ByteArray} {b : Bk} {n : Nat} (h : rdBk s = ((b, n), true)) : BkRead s b n := by
  unfold rdBk at h
  by_cases hc : 2 ≤ (cutB 10 s).length ∧ (rdSvD (nth (cutB 10 s) 0)).2 = true
  · rw [if_pos hc] at h
    obtain ⟨v, hv⟩ : ∃ v, rdSvD (nth (cutB 10 s) 0) = (v, true) := ⟨_, Prod.ext rfl hc.2⟩
    rw [hv] at h
    simp only [Prod.mk.injEq, and_true] at h
    obtain ⟨rfl, rfl⟩ := h
    obtain ⟨hvo, hvt⟩ := rdSvD_yes_iff hv
    obtain ⟨i1, i2, i3, i4, i5⟩ := rdDs_ok 40 v (cutB 10 s).tail.dropLast hvo
    obtain ⟨ds, hds⟩ : ∃ ds, (rdDs 40 v (cutB 10 s).tail.dropLast).1 = ds := ⟨_, rfl⟩
    rw [hds] at i1 i2 i3 i4 i5
    rw [hds, i4]
    have hok : bkOk ⟨v, ds, []⟩ = true := bkOk_iff.2 ⟨hvo, by simp only [List.length_nil]; omega, i3, by simp [runFrom]⟩
    have hlen : ds.length + 2 ≤ (cutB 10 s).length := by
      rw [List.length_dropLast, List.length_tail] at i2; omega
    -- the pieces
    have hp := cut_pre 10 (ds.length + 1) s.data.toList (by
      have : (cutL 10 s.data.toList).length = (cutB 10 s).length := by unfold cutB; rw [List.length_map]
      omega)
    rw [cutB_list] at hp
    have e1 : (cutB 10 s).take (ds.length + 1) = surveyB v :: ds.map deedB := by
      cases hcs : cutB 10 s with
      | nil => rw [hcs] at hlen; simp at hlen
      | cons x xs =>
        rw [hcs] at hvt i5
        simp only [List.tail_cons] at i5
        rw [List.take_succ_cons, ← i5]
        congr 1
        · exact hvt.symm
        · rw [List.dropLast_eq_take, List.take_take, Nat.min_eq_left (by rw [hcs] at hlen; simp at hlen; omega)]
    have e2 : (((cutB 10 s).map (·.data.toList)).take (ds.length + 1)).flatMap (· ++ [10]) = (bookB ⟨v, ds, []⟩).data.toList := by
      rw [← List.map_take, e1, bookB_list hok]
      simp only [List.map_cons, List.flatMap_cons, List.map_map]
      rw [List.flatMap_map]
      simp only [List.append_assoc, List.singleton_append]
      rfl
    rw [e2] at hp
    have hsz : (bookB ⟨v, ds, []⟩).size = (surveyB v).size + 1 + lenD ds := bookB_size hok
    rw [hvt] at hsz
    have hle : (bookB ⟨v, ds, []⟩).size ≤ s.size := by
      have := hp.length_le
      exact this
    refine ⟨hok, rfl, by rw [← hsz]; exact hle, ?_, hc.1, hv⟩
    rw [← hsz]
    obtain ⟨r, hr⟩ := hp
    apply ByteArray.ext
    rw [← Array.toList_inj]
    rw [show (s.extract 0 (bookB ⟨v, ds, []⟩).size).data.toList = s.data.toList.take (bookB ⟨v, ds, []⟩).size by simp [ByteArray.extract, ByteArray.copySlice, Array.toList_extract]]
    have e3 : (bookB ⟨v, ds, []⟩).size = (bookB ⟨v, ds, []⟩).data.toList.length := rfl
    rw [← hr, e3, List.take_append_of_le_length (Nat.le_refl _), List.take_of_length_le (Nat.le_refl _)]
  · rw [if_neg hc] at h
    simp at h
theorem ext_list (s : ByteArray) (k : Nat) : (s.extract 0 k).data.toList = s.data.toList.take k := by simp [ByteArray.extract, ByteArray.copySlice, Array.toList_extract]
theorem toB_map_pre {l1 l2 : List (List UInt8)} (h : l1 <+: l2) : l1.map toB <+: l2.map toB := by
  obtain ⟨r, rfl⟩ := h
  exact ⟨r.map toB, by rw [List.map_append]⟩
theorem map_dropLast {α β : Type} (f : α → β) : ∀ l : List α, (l.map f).dropLast = l.dropLast.map f
  | [] => rfl
  | [_] => rfl
  | _ :: y :: l => by
    have := map_dropLast f (y :: l)
    simp only [List.map_cons, List.dropLast_cons_cons] at this ⊢
    rw [this]
/-- of a beginning of a text a book is read, if the first line is whole; and some of the first deeds -/
theorem rdBk_part {s : ByteArray} {b : Bk} {n : Nat} (h : rdBk s = ((b, n), true)) {k : Nat} (hk : k ≤ s.size) {y : Bk} {m : Nat} {can : Bool} (hp : rdBk (s.extract 0 k) = ((y, m), can)) :
    can = decide ((nth (cutB 10 s) 0).size < k) ∧ m ≤ k ∧ (can = true → y.first = b.first ∧ y.done <+: b.done) := by
  have hR := rdBk_read h
  have h2 := hR.two
  have hmem : (10 : UInt8) ∈ s.data.toList := by
    rcases Classical.em ((10 : UInt8) ∈ s.data.toList) with e | e
    · exact e
    · rw [cutB_none e] at h2; simp at h2
  obtain ⟨f, r, hfr, hf⟩ := List.eq_append_cons_of_mem hmem
  have hcs : cutB 10 s = toB f :: (cutL 10 r).map toB := by unfold cutB; rw [hfr, cutL_app _ hf]; rfl
  have h0 : nth (cutB 10 s) 0 = toB f := by rw [hcs]; rfl
  have hfs : (toB f).size = f.length := by
    have : (toB f).size = (toB f).data.toList.length := rfl
    rw [this, toB_list]
  have hks : (s.extract 0 k).size = k := by
    have : (s.extract 0 k).size = (s.extract 0 k).data.toList.length := rfl
    have h3 : s.size = s.data.toList.length := rfl
    rw [this, ext_list, List.length_take]; omega
  rw [h0, hfs]
  by_cases hkf : k ≤ f.length
  · have hno : (10 : UInt8) ∉ (s.extract 0 k).data.toList := by
      rw [ext_list, hfr, List.take_append_of_le_length hkf]
      exact fun e => hf (List.mem_of_mem_take e)
    have hfew := rdBk_few (s := s.extract 0 k) (by rw [cutB_none hno]; simp)
    rw [hp] at hfew
    simp only [Prod.mk.injEq] at hfew
    obtain ⟨⟨-, rfl⟩, rfl⟩ := hfew
    exact ⟨by simp; omega, by omega, fun e => by cases e⟩
  · have e : (s.extract 0 k).data.toList = f ++ 10 :: r.take (k - f.length - 1) := by
      rw [ext_list, hfr, List.take_append, List.take_of_length_le (by omega)]
      obtain ⟨i, hi⟩ : ∃ i, k - f.length = i + 1 := ⟨k - f.length - 1, by omega⟩
      rw [hi, List.take_succ_cons]
      rfl
    have hcp : cutB 10 (s.extract 0 k) = toB f :: (cutL 10 (r.take (k - f.length - 1))).map toB := by unfold cutB; rw [e, cutL_app _ hf]; rfl
    have hp0 : nth (cutB 10 (s.extract 0 k)) 0 = toB f := by rw [hcp]; rfl
    have hv := hR.first
    rw [h0] at hv
    have hlen : 2 ≤ (cutB 10 (s.extract 0 k)).length := by
      rw [hcp]
      have := cutL_ne 10 (r.take (k - f.length - 1))
      cases hc : cutL 10 (r.take (k - f.length - 1)) with
      | nil => exact absurd hc this
      | cons _ _ => simp
    have hpre : (cutB 10 (s.extract 0 k)).tail.dropLast <+: (cutB 10 s).tail.dropLast := by
      rw [hcp, hcs]
      simp only [List.tail_cons]
      rw [map_dropLast, map_dropLast]
      exact toB_map_pre (cut_take 10 r.length r _ (Nat.le_refl _))
    have hd := rdDs_pre 40 b.first _ _ hpre
    have hy := rdBk_yes (s := s.extract 0 k) (by rw [hp0]; exact hv) hlen (Prod.ext rfl rfl)
    have hb := rdBk_yes (s := s) (by rw [h0]; exact hv) h2 (Prod.ext rfl rfl)
    rw [hp] at hy
    rw [h] at hb
    simp only [Prod.mk.injEq] at hy hb
    obtain ⟨⟨rfl, -⟩, rfl⟩ := hy
    have hm := (rdBk_read hp).le
    rw [hks] at hm
    refine ⟨by simp; omega, hm, fun _ => ⟨rfl, ?_⟩⟩
    have hbd := congrArg Bk.done hb.1.1
    simp only at hbd ⊢
    rw [hbd]
    exact hd
/-- where the first line ends -/
theorem rdBk_line {s : ByteArray} {b : Bk} {n : Nat} (h : rdBk s = ((b, n), true)) : ∃ (f : List UInt8) (r : List UInt8), s.data.toList = f ++ 10 :: r ∧ (10 : UInt8) ∉ f ∧ (nth (cutB 10 s) 0).size = f.length := by
  have hR := rdBk_read h
  have h2 := hR.two
  have hmem : (10 : UInt8) ∈ s.data.toList := by
    rcases Classical.em ((10 : UInt8) ∈ s.data.toList) with e | e
    · exact e
    · rw [cutB_none e] at h2; simp at h2
  obtain ⟨f, r, hfr, hf⟩ := List.eq_append_cons_of_mem hmem
  refine ⟨f, r, hfr, hf, ?_⟩
  have hcs : cutB 10 s = toB f :: (cutL 10 r).map toB := by unfold cutB; rw [hfr, cutL_app _ hf]; rfl
  have h0 : nth (cutB 10 s) 0 = toB f := by rw [hcs]; rfl
  have : (toB f).size = (toB f).data.toList.length := rfl
  rw [h0, this, toB_list]
theorem rdBk_no_zero {s : ByteArray} {b : Bk} {n : Nat} (h : rdBk s = ((b, n), false)) : b = zeroBk ∧ n = 0 := by
  unfold rdBk at h
  split at h
  · cases h
  · simp only [Prod.mk.injEq, and_true] at h
    exact ⟨h.1.symm, h.2.symm⟩
theorem pre_take {α : Type} {l1 l2 : List α} (h : l1 <+: l2) : l2.take l1.length = l1 := (List.prefix_iff_eq_take.1 h).symm
end Go.Proofs.YtcilgpmeliegoaaGreatDoor
