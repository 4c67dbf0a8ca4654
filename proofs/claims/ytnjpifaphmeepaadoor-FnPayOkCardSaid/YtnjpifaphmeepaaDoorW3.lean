/- Walks: sets of blocks: impl.pitSetFits, impl.PitWorth. -/
import Derived.Test.YtnjpifaphmeepaaDoorW2
import Derived.Test.YtnjpifaphmeepaaDoorBits
namespace Go.Proofs.YtnjpifaphmeepaaDoor
open Go Go.RowKit

def setOk (bs : List Blk) (s : Int) : Bool := pitOk bs && decide (0 ≤ s) && decide (s < 2 ^ bs.length)

theorem pitSetFits_any (a : Option Addr) (c : Nat) (bs : List Blk) (s : Int) (w : World) (hl : bs.length ≤ 1048576) (hs : Pit w a bs) :
    Calls Tryd.prog 71 #[.slice a bs.length c, .int .i64 s] w fun e w' => e = .returned (.bool (setOk bs s)) ∧ Below w.heap.size w w' := by
  cases hp : pitOk bs
  · go_enter Tryd.func71, Tryd.ntmps71
    go_wp2_with (go_at_call 18; refine (pitValid_any _ _ _ _ hl hs).mono ?_; rintro e w' ⟨rfl, hb⟩)
    go_ret
    exact ⟨by simp [setOk, hp], hb⟩
  · have hn : bs.length ≤ 8 := by simp [pitOk] at hp; exact hp.1
    have hw := wrap_pow (n := bs.length) (by omega)
    by_cases h0 : 0 ≤ s
    · go_enter Tryd.func71, Tryd.ntmps71
      go_wp2_with (go_at_call 18; refine (pitValid_any _ _ _ _ hl hs).mono ?_; rintro e w' ⟨rfl, hb⟩)
      go_ret
      exact ⟨by simp [setOk, hp, h0], hb⟩
    · have h0' : ¬ 0 ≤ s := h0
      go_enter Tryd.func71, Tryd.ntmps71
      go_wp2_with (go_at_call 18; refine (pitValid_any _ _ _ _ hl hs).mono ?_; rintro e w' ⟨rfl, hb⟩)
      go_ret
      exact ⟨by simp [setOk, hp]; omega, hb⟩

/-- what the blocks of a set are worth, from block i on -/
def worthFrom (m : Nat) : Nat → List Blk → Int
  | _, [] => 0
  | i, b :: l => (if m.testBit i then b.worth else 0) + worthFrom m (i + 1) l
def worthOf (bs : List Blk) (m : Nat) : Int := worthFrom m 0 bs

theorem blksOk_nth {bs : List Blk} : ∀ {i k : Nat}, blksOk i bs = true → k < bs.length → blkOk (i + k) (nth bs k) = true := by
  induction bs with
  | nil => intro i k _ h; simp at h
  | cons b l ih =>
    intro i k h hk
    simp only [blksOk, Bool.and_eq_true] at h
    cases k with
    | zero => exact h.1
    | succ k =>
      have := ih (i := i + 1) (k := k) h.2 (by simpa using hk)
      rw [show i + 1 + k = i + (k + 1) by omega] at this
      exact this
theorem pitOk_blk {bs : List Blk} (h : pitOk bs = true) {k : Nat} (hk : k < bs.length) : blkOk k (nth bs k) = true := by
  simp only [pitOk, Bool.and_eq_true] at h
  have := blksOk_nth h.2 hk
  rwa [Nat.zero_add] at this
theorem pitOk_len {bs : List Blk} (h : pitOk bs = true) : bs.length ≤ 8 := by
  simp only [pitOk, Bool.and_eq_true, decide_eq_true_eq] at h; exact h.1
theorem pitOk_worth {bs : List Blk} (h : pitOk bs = true) {k : Nat} (hk : k < bs.length) : -20 ≤ (nth bs k).worth ∧ (nth bs k).worth ≤ 20 := by
  have := pitOk_blk h hk
  simp only [blkOk, isIn, Bool.and_eq_true, decide_eq_true_eq] at this
  exact this.1.1
theorem setOk_of {bs : List Blk} {s : Int} (h : setOk bs s = true) : pitOk bs = true ∧ ∃ m : Nat, s = m ∧ m < 2 ^ bs.length := by
  simp only [setOk, Bool.and_eq_true, decide_eq_true_eq] at h
  refine ⟨h.1.1, s.toNat, by omega, ?_⟩
  have h2 := h.2
  have e : ((2 : Int) ^ bs.length) = ((2 ^ bs.length : Nat) : Int) := by simp
  rw [e] at h2
  generalize 2 ^ bs.length = p at *
  omega

def pitWorthF (bs : List Blk) (s : Int) : Int := if setOk bs s then worthOf bs s.toNat else 0

theorem pitWorth_any (a : Option Addr) (c : Nat) (bs : List Blk) (s : Int) (w : World) (hl : bs.length ≤ 1048576) (hs : Pit w a bs) :
    Calls Tryd.prog 29 #[.slice a bs.length c, .int .i64 s] w fun e w' => e = .returned (.int .i64 (pitWorthF bs s)) ∧ Below w.heap.size w w' := by
  cases hv : setOk bs s
  · go_enter Tryd.func29, Tryd.ntmps29
    go_wp2_with (go_at_call 71; refine (pitSetFits_any _ _ _ _ _ (by omega) hs).mono ?_; rintro e w' ⟨rfl, hb0⟩)
    go_ret
    exact ⟨by simp [pitWorthF, hv], hb0⟩
  obtain ⟨hp, m, rfl, hm⟩ := setOk_of hv
  have hl8 := pitOk_len hp
  have hm' : m < 256 := Nat.lt_of_lt_of_le hm (pow_le_of (k := 8) hl8)
  have HF : Hid (pitWorthF bs m = worthOf bs m) := by simp [Hid, pitWorthF, hv]
  clear hm
  go_enter Tryd.func29, Tryd.ntmps29
  go_wp2_with (go_at_call 71; refine (pitSetFits_any _ _ _ _ _ (by omega) hs).mono ?_; rintro e w1 ⟨rfl, hb0⟩)
  go_loopw [5, 14] (fun t i wr => ∃ (k : Nat) (T : Int), k ≤ bs.length ∧ i = .int .i64 k ∧ t = .int .i64 T ∧ -20 * k ≤ T ∧ T ≤ 20 * k ∧ Hid (worthOf bs m = T + worthFrom m k (bs.drop k)) ∧ Below w.heap.size w wr) (fun _ i _ => bs.length - (intOf i).toNat)
  case atStart => exact ⟨0, 0, by omega, rfl, rfl, by omega, by omega, by simp [Hid, worthOf], hb0⟩
  case round =>
    obtain ⟨k, T, hk, rfl, rfl, ht1, ht2, HR, hb⟩ := hrel
    by_cases hlt : k < bs.length
    · have hz := hb.size
      obtain ⟨b, off, A, C, rfl, hbw, h1, h2, h3, h4, h5, h6⟩ := Pit.at (hs.below hb) hlt
      clear hs
      obtain ⟨hw1, hw2⟩ := pitOk_worth hp hlt
      have hd := drop_nth hlt
      have HD := Lib.hid hd
      clear hd
      have hbit := shr_and m k (by omega)
      cases hq : m.testBit k
      · rw [bitZ_false hq] at hbit
        go_wp2
        go_roundw
        case rel => exact ⟨k + 1, T, by omega, by go_num, rfl, by omega, by omega, by show _ = _; rw [HR.out, HD.out]; simp [worthFrom, hq], (by repeat (first | with_reducible assumption | exact Below.refl _ _ | refine below_drewN ?_ _ | refine Below.drew ?_ | refine Below.alloc ?_ (by first | omega | (simp; done) | (simp; omega)) _ | refine Below.setCell ?_ (by first | omega | (simp; done) | (simp; omega)) _))⟩
        case measure => simp [intOf]; omega
      · rw [bitZ_true hq] at hbit
        go_wp2
        go_roundw
        case rel => exact ⟨k + 1, T + (nth bs k).worth, by omega, by go_num, rfl, by omega, by omega, by show _ = _; rw [HR.out, HD.out]; simp [worthFrom, hq]; omega, (by repeat (first | with_reducible assumption | exact Below.refl _ _ | refine below_drewN ?_ _ | refine Below.drew ?_ | refine Below.alloc ?_ (by first | omega | (simp; done) | (simp; omega)) _ | refine Below.setCell ?_ (by first | omega | (simp; done) | (simp; omega)) _))⟩
        case measure => simp [intOf]; omega
    · go_wp2
      go_ret
      exact ⟨by rw [HF.out, HR.out, List.drop_eq_nil_of_le (by omega)]; simp [worthFrom], hb⟩
end Go.Proofs.YtnjpifaphmeepaaDoor
