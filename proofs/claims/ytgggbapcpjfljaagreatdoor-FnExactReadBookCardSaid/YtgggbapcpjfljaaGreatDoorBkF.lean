/- Surveys, deeds and books: what the program computes, as plain functions. No program. -/
import Derived.Test.YtgggbapcpjfljaaGreatDoorSvy
namespace Go.Proofs.YtgggbapcpjfljaaGreatDoor
open Go Go.RowKit

def isIdx (n m : Int) : Bool := decide (0 ≤ n) && decide (n < m)
def isIn (n m : Int) : Bool := decide (-m ≤ n) && decide (n ≤ m)
def legOk (n : Int) (g : Lg) : Bool := !(decide (n < 1) || decide (6 < n)) && (isIdx g.frm n && isIdx g.to n && !decide (g.frm = g.to) && (isIn g.east 99 && isIn g.north 99 && isIn g.up 99))
def legsOk (n : Int) (l : List Lg) : Bool := l.all (legOk n)
def svOk (s : Sv) : Bool := !(decide (s.st < 1) || decide (6 < s.st) || decide (9 < s.legs.length)) && legsOk s.st s.legs

theorem legOk_range {n : Int} (hn : n ≤ 6) {g : Lg} (h : legOk n g = true) : (0 ≤ g.frm ∧ g.frm < 6) ∧ (0 ≤ g.to ∧ g.to < 6) ∧ (-99 ≤ g.east ∧ g.east ≤ 99) ∧ (-99 ≤ g.north ∧ g.north ≤ 99) ∧ (-99 ≤ g.up ∧ g.up ≤ 99) := by
  simp only [legOk, isIdx, isIn, Bool.and_eq_true, decide_eq_true_eq] at h
  omega
theorem svOk_iff {s : Sv} : svOk s = true ↔ 1 ≤ s.st ∧ s.st ≤ 6 ∧ s.legs.length ≤ 9 ∧ legsOk s.st s.legs = true := by
  simp only [svOk, Bool.and_eq_true, Bool.not_eq_true', Bool.or_eq_false_iff, decide_eq_false_iff_not]
  exact ⟨fun ⟨⟨⟨h1, h2⟩, h3⟩, h4⟩ => ⟨by omega, by omega, by omega, h4⟩, fun ⟨h1, h2, h3, h4⟩ => ⟨⟨⟨by omega, by omega⟩, by omega⟩, h4⟩⟩
theorem legsOk_drop {n : Int} {l : List Lg} {k : Nat} (h : k < l.length) : legsOk n (l.drop k) = (legOk n (nth l k) && legsOk n (l.drop (k + 1))) := by
  rw [drop_nth h]; rfl
theorem legsOk_nth {n : Int} {l : List Lg} (h : legsOk n l = true) {k : Nat} (hk : k < l.length) : legOk n (nth l k) = true := by
  simp only [legsOk, List.all_eq_true] at h
  exact h _ (nth_mem hk)

theorem legOk_six {n : Int} (hn : n ≤ 6) {g : Lg} (h : legOk n g = true) : legOk 6 g = true := by
  simp only [legOk, isIdx, isIn, Bool.and_eq_true, Bool.not_eq_true', Bool.or_eq_false_iff, decide_eq_false_iff_not, decide_eq_true_eq] at h ⊢
  omega

def legBack (g : Lg) : Lg := ⟨g.to, g.frm, -g.east, -g.north, -g.up⟩
def noLeg : Lg := ⟨0, 0, 0, 0, 0⟩
def ddFits (d : Dd) : Bool :=
  if d.kind = 0 ∨ d.kind = 3 then true else if d.kind = 1 ∨ d.kind = 2 then decide (d.leg = noLeg) else if d.kind = 4 ∨ d.kind = 5 then decide (d.leg = noLeg) && decide (d.index = 0) else false
def places (s : Sv) (kind : Int) : Int := if kind = 0 then s.legs.length + 1 else s.legs.length

/-- what a deed makes of a survey, if there is what it tells -/
def ddTry (s : Sv) (d : Dd) : Option Sv :=
  let i := d.index.toNat
  if d.kind = 0 then (if 0 ≤ d.index ∧ d.index ≤ s.legs.length then some ⟨s.st, s.legs.take i ++ d.leg :: s.legs.drop i⟩ else none)
  else if d.kind = 1 then (if 0 ≤ d.index ∧ d.index < s.legs.length ∧ d.leg = noLeg then some ⟨s.st, s.legs.take i ++ s.legs.drop (i + 1)⟩ else none)
  else if d.kind = 2 then (if 0 ≤ d.index ∧ d.index < s.legs.length ∧ d.leg = noLeg then some ⟨s.st, s.legs.set i (legBack (nth s.legs i))⟩ else none)
  else if d.kind = 3 then (if 0 ≤ d.index ∧ d.index < s.legs.length ∧ d.leg ≠ nth s.legs i then some ⟨s.st, s.legs.set i d.leg⟩ else none)
  else if d.kind = 4 then (if d.index = 0 ∧ d.leg = noLeg then some ⟨s.st + 1, s.legs⟩ else none)
  else if d.kind = 5 then (if d.index = 0 ∧ d.leg = noLeg then some ⟨s.st - 1, s.legs⟩ else none)
  else none
def zeroSv : Sv := ⟨0, []⟩
def ddDo (s : Sv) (d : Dd) : Sv × Bool :=
  if svOk s then match ddTry s d with
    | some t => if svOk t then (t, true) else (s, false)
    | none => (s, false)
  else (zeroSv, false)
theorem ddDo_bad {s : Sv} {d : Dd} (h : svOk s = false) : ddDo s d = (zeroSv, false) := by simp [ddDo, h]
theorem ddDo_none {s : Sv} {d : Dd} (h : svOk s = true) (ht : ddTry s d = none) : ddDo s d = (s, false) := by simp [ddDo, h, ht]
theorem ddDo_some {s t : Sv} {d : Dd} (h : svOk s = true) (ht : ddTry s d = some t) (hk : svOk t = true) : ddDo s d = (t, true) := by simp [ddDo, h, ht, hk]
theorem ddDo_fail {s t : Sv} {d : Dd} (h : svOk s = true) (ht : ddTry s d = some t) (hk : svOk t = false) : ddDo s d = (s, false) := by simp [ddDo, h, ht, hk]
theorem ddDo_ok {s : Sv} {d : Dd} (h : (ddDo s d).2 = true) : svOk s = true ∧ ddTry s d = some (ddDo s d).1 ∧ svOk (ddDo s d).1 = true := by
  cases hs : svOk s
  · rw [ddDo_bad hs] at h; cases h
  · cases ht : ddTry s d with
    | none => rw [ddDo_none hs ht] at h; cases h
    | some t =>
      cases hk : svOk t
      · rw [ddDo_fail hs ht hk] at h; cases h
      · rw [ddDo_some hs ht hk]; exact ⟨rfl, rfl, hk⟩
theorem ddDo_valid {s : Sv} {d : Dd} (h : svOk s = true) : svOk (ddDo s d).1 = true := by
  cases h2 : (ddDo s d).2
  · cases ht : ddTry s d with
    | none => rw [ddDo_none h ht]; exact h
    | some t =>
      cases hk : svOk t
      · rw [ddDo_fail h ht hk]; exact h
      · rw [ddDo_some h ht hk] at h2; cases h2
  · exact (ddDo_ok h2).2.2

def noDd : Dd := ⟨0, 0, noLeg⟩
def ddBack (s : Sv) (d : Dd) : Dd × Bool :=
  if (ddDo s d).2 then
    (if d.kind = 0 then ⟨1, d.index, noLeg⟩ else if d.kind = 1 then ⟨0, d.index, nth s.legs d.index.toNat⟩ else if d.kind = 2 then d else if d.kind = 3 then ⟨3, d.index, nth s.legs d.index.toNat⟩ else if d.kind = 4 then ⟨5, 0, noLeg⟩ else ⟨4, 0, noLeg⟩, true)
  else (noDd, false)

/-- deeds, one behind the other, as far as they can be done -/
def runFrom (s : Sv) : List Dd → Sv × Nat
  | [] => (s, 0)
  | d :: l => if (ddDo s d).2 then ((runFrom (ddDo s d).1 l).1, (runFrom (ddDo s d).1 l).2 + 1) else (s, 0)
def ddRun (s : Sv) (l : List Dd) : Sv × Nat := if svOk s then runFrom s l else (zeroSv, 0)
theorem runFrom_le : ∀ (l : List Dd) (s : Sv), (runFrom s l).2 ≤ l.length
  | [], _ => Nat.le_refl _
  | d :: l, s => by
    simp only [runFrom]
    split
    · have := runFrom_le l (ddDo s d).1; simp; omega
    · simp
theorem runFrom_valid : ∀ (l : List Dd) (s : Sv), svOk s = true → svOk (runFrom s l).1 = true
  | [], _, h => h
  | d :: l, s, h => by
    simp only [runFrom]
    split
    · exact runFrom_valid l _ (ddDo_valid h)
    · exact h
theorem runFrom_append : ∀ (l m : List Dd) (s : Sv), (runFrom s l).2 = l.length → runFrom s (l ++ m) = ((runFrom (runFrom s l).1 m).1, l.length + (runFrom (runFrom s l).1 m).2)
  | [], m, s, _ => by simp [runFrom]
  | d :: l, m, s, h => by
    simp only [runFrom] at h ⊢
    split at h
    · rename_i hd
      simp only [List.cons_append, runFrom, if_pos hd]
      rw [runFrom_append l m (ddDo s d).1 (by simpa using h)]
      simp only [Prod.mk.injEq, List.length_cons, true_and]; omega
    · simp at h
theorem runFrom_append_short : ∀ (l m : List Dd) (s : Sv), (runFrom s l).2 < l.length → runFrom s (l ++ m) = runFrom s l
  | [], m, s, h => by simp at h
  | d :: l, m, s, h => by
    simp only [runFrom] at h ⊢
    split at h
    · rename_i hd
      simp only [List.cons_append, runFrom, if_pos hd]
      rw [runFrom_append_short l m (ddDo s d).1 (by simpa using h)]
    · rename_i hd
      simp only [List.cons_append, runFrom, if_neg hd]

def bkOk (b : Bk) : Bool := svOk b.first && !decide (40 < b.done.length + b.undone.length) && decide ((ddRun b.first (b.done ++ b.undone.reverse)).2 = b.done.length + b.undone.length)
theorem ddRun_ok {s : Sv} (h : svOk s = true) (l : List Dd) : ddRun s l = runFrom s l := by simp [ddRun, h]
theorem ddRun_bad {s : Sv} (h : svOk s = false) (l : List Dd) : ddRun s l = (zeroSv, 0) := by simp [ddRun, h]
theorem bkOk_iff {b : Bk} : bkOk b = true ↔ svOk b.first = true ∧ b.done.length + b.undone.length ≤ 40 ∧ (runFrom b.first b.done).2 = b.done.length ∧ (runFrom (runFrom b.first b.done).1 b.undone.reverse).2 = b.undone.length := by
  simp only [bkOk, Bool.and_eq_true, Bool.not_eq_true', decide_eq_false_iff_not, decide_eq_true_iff]
  constructor
  · rintro ⟨⟨h1, h2⟩, h3⟩
    rw [ddRun_ok h1] at h3
    refine ⟨h1, by omega, ?_⟩
    have hle := runFrom_le b.done b.first
    by_cases hlt : (runFrom b.first b.done).2 = b.done.length
    · rw [runFrom_append _ _ _ hlt] at h3
      exact ⟨hlt, by simp at h3; omega⟩
    · rw [runFrom_append_short _ _ _ (by omega)] at h3; omega
  · rintro ⟨h1, h2, h3, h4⟩
    refine ⟨⟨h1, by omega⟩, ?_⟩
    rw [ddRun_ok h1, runFrom_append _ _ _ h3, h4]
def bkNow (b : Bk) : Sv := if bkOk b then (runFrom b.first b.done).1 else zeroSv
def zeroBk : Bk := ⟨zeroSv, [], []⟩
def bkDo (b : Bk) (d : Dd) : Bk × Bool :=
  if bkOk b then (if (ddDo (bkNow b) d).2 = true ∧ b.done.length ≠ 40 then (⟨b.first, b.done ++ [d], []⟩, true) else (b, false)) else (zeroBk, false)
def bkUndo (b : Bk) : Bk × Bool :=
  if bkOk b then (if b.done.length = 0 then (b, false) else (⟨b.first, b.done.take (b.done.length - 1), b.undone ++ [nth b.done (b.done.length - 1)]⟩, true)) else (zeroBk, false)
def bkRedo (b : Bk) : Bk × Bool :=
  if bkOk b then (if b.undone.length = 0 then (b, false) else (⟨b.first, b.done ++ [nth b.undone (b.undone.length - 1)], b.undone.take (b.undone.length - 1)⟩, true)) else (zeroBk, false)
end Go.Proofs.YtgggbapcpjfljaaGreatDoor
