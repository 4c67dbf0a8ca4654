/- Walks: texts of surveys, impl and spec. -/
import Derived.Test.YtgggbapcpjfljaaGreatDoorTX5
namespace Go.Proofs.YtgggbapcpjfljaaGreatDoor
open Go Go.RowKit Go.Sort

/-- a text with the legs behind it -/
def legsB (t : ByteArray) : List Lg → ByteArray
  | [] => t
  | g :: l => legsB (t ++ (⟨#[59]⟩ ++ legB g)) l
def surveyB (s : Sv) : ByteArray := if svOk s then legsB (itoaB s.st) s.legs else ⟨#[]⟩
theorem legsB_drop (t : ByteArray) {l : List Lg} {k : Nat} (h : k < l.length) : legsB t (l.drop k) = legsB (t ++ (⟨#[59]⟩ ++ legB (nth l k))) (l.drop (k + 1)) := by
  rw [drop_nth h]; rfl
theorem legB_le (g : Lg) : (legB g).size ≤ 200 := by
  cases h : legOk 6 g
  · simp [legB, h, ByteArray.size]
  · exact (legB_size h).2

theorem surveyText_any (a : Option Addr) (c : Nat) (n : Int) (l : List Lg) (w : World) (hl : l.length ≤ 1048576) (hs : Legs w a l) (hp : Pow w) :
    Calls Tryz.prog 37 #[.agg #[.int .i64 n, .slice a l.length c]] w fun e w' => e = .returned (.string (surveyB ⟨n, l⟩)) ∧ Below w.heap.size w w' := by
  have i1 := fun w h => surveyValid_any a c n l w hl h
  cases hv : svOk ⟨n, l⟩
  · have HB := Lib.hid (show surveyB ⟨n, l⟩ = ⟨#[]⟩ by simp [surveyB, hv])
    rw [hv] at i1
    go_enter Tryz.func37, Tryz.ntmps37
    go_wp2_with (go_at_call 42; refine (i1 _ (hs.below (by repeat (first | with_reducible assumption | exact Below.refl _ _ | refine below_drewN ?_ _ | refine Below.drew ?_ | refine Below.alloc ?_ (by first | omega | (simp; done) | (simp; omega)) _ | refine Below.setCell ?_ (by first | omega | (simp; done) | (simp; omega)) _)))).mono ?_; rintro e w1 ⟨rfl, b1⟩)
    go_ret
    exact ⟨by rw [HB.out]; first | done | rfl, ((Below.refl _ _).alloc (Nat.le_refl _) _).trans (b1.mono (by simp))⟩
  have HB := Lib.hid (show surveyB ⟨n, l⟩ = legsB (itoaB n) l by simp [surveyB, hv])
  have hr : (1 ≤ n ∧ n ≤ 6) ∧ l.length ≤ 9 := by
    simp [svOk] at hv; omega
  obtain ⟨hn, hl9⟩ := hr
  rw [hv] at i1
  have z1 := itoaB_size (n := n) (by omega) (by omega)
  go_enter Tryz.func37, Tryz.ntmps37
  go_wp2_with fail
  refine (i1 _ (hs.below (by repeat (first | with_reducible assumption | exact Below.refl _ _ | refine below_drewN ?_ _ | refine Below.drew ?_ | refine Below.alloc ?_ (by first | omega | (simp; done) | (simp; omega)) _ | refine Below.setCell ?_ (by first | omega | (simp; done) | (simp; omega)) _)))).mono ?_
  rintro e w1 ⟨rfl, b1⟩
  have q1 : Below w.heap.size w w1 := ((Below.refl _ _).alloc (Nat.le_refl _) _).trans (b1.mono (by simp))
  obtain ⟨hc1, _hf1⟩ := bcell b1
  go_wp2_with fail
  refine (itoa_any n (by omega) (by omega) _ (hp.below q1)).mono ?_
  rintro e w2 ⟨rfl, b2⟩
  have r2 := b1.trans (b2.mono b1.size)
  obtain ⟨hc2, _hf2⟩ := bcell r2
  clear i1 hv hc1 _hf1
  go_wp2_with fail
  clear hc2 _hf2
  go_loopw [3, 15] (fun t i wr => ∃ (k : Nat) (u : ByteArray), k ≤ l.length ∧ t = .string u ∧ i = .int .i64 k ∧ Hid (legsB (itoaB n) l = legsB u (l.drop k)) ∧ u.size ≤ 21 + 201 * k ∧ Below (w.heap.size + 1) (w.alloc (.cells #[.int .i64 n, .slice a l.length c] 24)) wr) (fun _ i _ => l.length - (intOf i).toNat)
  case atStart => exact ⟨0, itoaB n, by omega, rfl, rfl, rfl, by omega, by simpa using r2⟩
  case round =>
    obtain ⟨k, u, hk, rfl, rfl, HR, hu, hb⟩ := hrel
    have hz : w.heap.size < wr.heap.size := by have := hb.size; simp at this; omega
    have hbw : Below w.heap.size w wr := ((Below.refl w.heap.size w).alloc (Nat.le_refl _) _).trans (hb.mono (by omega))
    by_cases hlt : k < l.length
    · obtain ⟨b, off, rfl, hbz, e1, e2, e3, e4, e5⟩ := Legs.at (hs.below hbw) hlt
      clear hs
      have HD := Lib.hid (legsB_drop u hlt)
      have i2 := legText_any (nth l k)
      have z2 := legB_le (nth l k)
      obtain ⟨L, hL⟩ : ∃ L, L = legB (nth l k) := ⟨_, rfl⟩
      rw [← hL] at i2 HD z2
      simp only [Lg.val] at i2
      clear hL
      go_wp2_with (go_at_call 61; refine (i2 _ (hp.below (hbw.alloc (by omega) _))).mono ?_; rintro e w3 ⟨rfl, b3⟩)
      go_roundw
      case rel => exact ⟨k + 1, _, by omega, rfl, by go_num, by show _ = _; rw [HR.out, HD.out], by simp only [ByteArray.size_append]; have : (⟨#[59]⟩ : ByteArray).size = 1 := rfl; omega, (hb.alloc (by omega) _).trans (b3.mono (by simp; omega))⟩
      case measure => simp [intOf]; omega
    · go_wp2
      go_ret
      exact ⟨by rw [HB.out, HR.out, List.drop_eq_nil_of_le (by omega)]; rfl, hbw⟩

theorem ssurveyText_any (a : Option Addr) (c : Nat) (n : Int) (l : List Lg) (w : World) (hl : l.length ≤ 1048576) (hs : Legs w a l) :
    Calls Tryz.prog 27 #[.agg #[.int .i64 n, .slice a l.length c]] w fun e w' => e = .returned (.string (surveyB ⟨n, l⟩)) ∧ Below w.heap.size w w' := by
  have i1 := fun w h => ssurveyValid_any a c n l w hl h
  cases hv : svOk ⟨n, l⟩
  · have HB := Lib.hid (show surveyB ⟨n, l⟩ = ⟨#[]⟩ by simp [surveyB, hv])
    rw [hv] at i1
    go_enter Tryz.func27, Tryz.ntmps27
    go_wp2_with (go_at_call 30; refine (i1 _ (hs.below (by repeat (first | with_reducible assumption | exact Below.refl _ _ | refine below_drewN ?_ _ | refine Below.drew ?_ | refine Below.alloc ?_ (by first | omega | (simp; done) | (simp; omega)) _ | refine Below.setCell ?_ (by first | omega | (simp; done) | (simp; omega)) _)))).mono ?_; rintro e w1 ⟨rfl, b1⟩)
    go_ret
    exact ⟨by rw [HB.out]; first | done | rfl, ((Below.refl _ _).alloc (Nat.le_refl _) _).trans (b1.mono (by simp))⟩
  have HB := Lib.hid (show surveyB ⟨n, l⟩ = legsB (itoaB n) l by simp [surveyB, hv])
  have hr : (1 ≤ n ∧ n ≤ 6) ∧ l.length ≤ 9 := by
    simp [svOk] at hv; omega
  obtain ⟨hn, hl9⟩ := hr
  rw [hv] at i1
  have z1 := itoaB_size (n := n) (by omega) (by omega)
  go_enter Tryz.func27, Tryz.ntmps27
  go_wp2_with fail
  refine (i1 _ (hs.below (by repeat (first | with_reducible assumption | exact Below.refl _ _ | refine below_drewN ?_ _ | refine Below.drew ?_ | refine Below.alloc ?_ (by first | omega | (simp; done) | (simp; omega)) _ | refine Below.setCell ?_ (by first | omega | (simp; done) | (simp; omega)) _)))).mono ?_
  rintro e w1 ⟨rfl, b1⟩
  obtain ⟨hc1, _hf1⟩ := bcell b1
  go_wp2_with fail
  refine (l1Num_any n (by omega) (by omega) _).mono ?_
  rintro e w2 ⟨rfl, b2⟩
  have r2 := b1.trans (b2.mono b1.size)
  clear i1 hv hc1 _hf1
  go_wp2_with fail
  go_loopw [3, 4] (fun t i wr => ∃ (k : Nat) (u : ByteArray), k ≤ l.length ∧ t = .string u ∧ i = .int .i64 k ∧ Hid (legsB (itoaB n) l = legsB u (l.drop k)) ∧ u.size ≤ 21 + 201 * k ∧ Below (w.heap.size + 1) (w.alloc (.cells #[.int .i64 n, .slice a l.length c] 24)) wr) (fun _ i _ => l.length - (intOf i).toNat)
  case atStart => exact ⟨0, itoaB n, by omega, rfl, rfl, rfl, by omega, by simpa using r2⟩
  case round =>
    obtain ⟨k, u, hk, rfl, rfl, HR, hu, hb⟩ := hrel
    have hz : w.heap.size < wr.heap.size := by have := hb.size; simp at this; omega
    have hbw : Below w.heap.size w wr := ((Below.refl w.heap.size w).alloc (Nat.le_refl _) _).trans (hb.mono (by omega))
    have c1 : wr.cell? ⟨w.heap.size, 1, none⟩ = some (.slice a l.length c) := by rw [hb.cell (p := ⟨w.heap.size, 1, none⟩) (by simp)]; simp
    by_cases hlt : k < l.length
    · obtain ⟨b, off, rfl, hbz, e1, e2, e3, e4, e5⟩ := Legs.at (hs.below hbw) hlt
      clear hs
      have HD := Lib.hid (legsB_drop u hlt)
      have i2 := slegText_any (nth l k)
      have z2 := legB_le (nth l k)
      obtain ⟨L, hL⟩ : ∃ L, L = legB (nth l k) := ⟨_, rfl⟩
      rw [← hL] at i2 HD z2
      simp only [Lg.val] at i2
      clear hL
      go_wp2_with (go_at_call 54; refine (i2 _).mono ?_; rintro e w3 ⟨rfl, b3⟩)
      go_roundw
      case rel => exact ⟨k + 1, _, by omega, rfl, by go_num, by show _ = _; rw [HR.out, HD.out, ← ByteArray.append_assoc], by simp only [ByteArray.size_append]; have : (⟨#[59]⟩ : ByteArray).size = 1 := rfl; omega, hb.trans (b3.mono (by omega))⟩
      case measure => simp [intOf]; omega
    · go_wp2
      go_ret
      exact ⟨by rw [HB.out, HR.out, List.drop_eq_nil_of_le (by omega)]; rfl, hbw⟩
end Go.Proofs.YtgggbapcpjfljaaGreatDoor
