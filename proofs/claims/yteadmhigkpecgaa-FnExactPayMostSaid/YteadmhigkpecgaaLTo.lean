/- Walks: the laws' arguments, copied: toIntS, toIntSS, toBlock, toBlockS. -/
import Derived.Test.YteadmhigkpecgaaOwn
import Derived.Test.YteadmhigkpecgaaPit
namespace Go.Proofs.Yteadmhigkpecgaa
open Go Go.RowKit

theorem toIntS_any (a : Option Addr) (c : Nat) (xs : List Int) (w : World) (hl : xs.length ≤ 1048576) (hs : Ints w a xs) :
    Calls Try.prog 22 #[.slice a xs.length c] w fun e w' => e = .returned (.slice (some ⟨w.heap.size, 0, none⟩) xs.length xs.length) ∧ OwnI w' w.heap.size xs.length (nth xs) ∧ Below w.heap.size w w' ∧ w'.heap.size = w.heap.size + 1 := by
  have hmk := mkInts xs.length (by omega)
  go_enter Try.func22, Try.ntmps22
  go_wp2_with fail
  clear hmk
  go_loopw [4] (fun i wr => ∃ k : Nat, k ≤ xs.length ∧ i = .int .i64 k ∧ OwnI wr w.heap.size xs.length (fun j => if j < k then nth xs j else 0) ∧ Below w.heap.size w wr ∧ wr.heap.size = w.heap.size + 1) (fun i _ => xs.length - (intOf i).toNat)
  case atStart => exact ⟨0, by omega, rfl, (OwnI.made w xs.length).congr (by simp), (by repeat (first | with_reducible assumption | exact Below.refl _ _ | refine below_drewN ?_ _ | refine Below.drew ?_ | refine Below.alloc ?_ (by first | omega | (simp; done) | (simp; omega)) _ | refine Below.setCell ?_ (by first | omega | (simp; done) | (simp; omega)) _)), by simp⟩
  case round =>
    obtain ⟨k, hk, rfl, ho, hb, hsz⟩ := hrel
    have HZ := Lib.hid hsz
    clear hsz
    by_cases hlt : k < xs.length
    · obtain ⟨b, off, rfl, hbw, hc⟩ := Ints.at (hs.below hb) hlt
      have h0 := hc k hlt
      have h1 := ho.cell hlt
      have h2 := ho.frozen k
      clear hc hs
      go_wp2
      go_roundw
      case rel =>
        refine ⟨k + 1, by omega, by go_num, (OwnI.set ho k (nth xs k)).congr fun j _ => ?_, (by repeat (first | with_reducible assumption | exact Below.refl _ _ | refine below_drewN ?_ _ | refine Below.drew ?_ | refine Below.alloc ?_ (by first | omega | (simp; done) | (simp; omega)) _ | refine Below.setCell ?_ (by first | omega | (simp; done) | (simp; omega)) _)), by have := HZ.out; simp [World.setCell]; omega⟩
        by_cases e : j = k
        · simp [e]
        · by_cases e2 : j < k
          · simp [e, e2, show j < k + 1 by omega]
          · simp [e, e2, show ¬ j < k + 1 by omega]
      case measure => simp [intOf] <;> omega
    · go_wp2
      go_ret
      exact ⟨rfl, ho.congr (fun j hj => by simp [show j < k by omega]), hb, HZ.out⟩

/-- reading a row of the call's own -/
theorem rd_of_row {α : Type} [Inhabited α] {L : Lay α} {w : World} {b t n : Nat} {f : Nat → Value} {xs : List α} (h : w.rowIs b t n f) (hx : ∀ k, k < xs.length → L.At w b (k * L.sz) (nth xs k)) : Rd L w (some ⟨b, 0, none⟩) xs :=
  .inr ⟨b, 0, rfl, h.lt, fun k hk => by rw [Nat.zero_add]; exact hx k hk⟩

theorem toIntSS_any (a : Option Addr) (c : Nat) (xs : List (List Int)) (w : World) (hl : xs.length ≤ 1048576) (hs : Tab w a xs) :
    Calls Try.prog 10 #[.slice a xs.length c] w fun e w' => e = .returned (.slice (some ⟨w.heap.size, 0, none⟩) xs.length xs.length) ∧ Tab w' (some ⟨w.heap.size, 0, none⟩) xs ∧ Below w.heap.size w w' := by
  have hmk := mkRows xs.length (by omega)
  go_enter Try.func10, Try.ntmps10
  go_wp2_with fail
  clear hmk
  go_loopw [4] (fun i wr => ∃ k : Nat, k ≤ xs.length ∧ i = .int .i64 k ∧ wr.heap.size = w.heap.size + 1 + k ∧ wr.rowIs w.heap.size 36 xs.length (fun i => if i < k then .slice (some ⟨w.heap.size + 1 + i, 0, none⟩) (nth xs i).length (nth xs i).length else .slice none 0 0) ∧ (∀ i, i < k → OwnI wr (w.heap.size + 1 + i) (nth xs i).length (nth (nth xs i))) ∧ Below w.heap.size w wr) (fun i _ => xs.length - (intOf i).toNat)
  case atStart => exact ⟨0, by omega, rfl, by simp, (World.rowIs_made w (.slice none 0 0) xs.length 36).congr (by simp), fun i hi => by omega, (by repeat (first | with_reducible assumption | exact Below.refl _ _ | refine below_drewN ?_ _ | refine Below.drew ?_ | refine Below.alloc ?_ (by first | omega | (simp; done) | (simp; omega)) _ | refine Below.setCell ?_ (by first | omega | (simp; done) | (simp; omega)) _))⟩
  case round =>
    obtain ⟨k, hk, rfl, hsz, ho, hi, hb⟩ := hrel
    have HZ := Lib.hid hsz
    by_cases hlt : k < xs.length
    · have hz := hb.size
      have hlt' : w.heap.size < wr.heap.size := by omega
      clear hsz
      obtain ⟨b, off, A, C, rfl, hbw, c1, c2, c3, c4, c5⟩ := Tab.at (hs.below hb) hlt
      clear hs
      go_wp2_with (go_at_call 22; refine (toIntS_any _ _ _ _ c2 c5).mono ?_; rintro e w1 ⟨rfl, o1, b1, z1⟩; have HZ1 := Lib.hid z1; clear z1; have q1 := (rowIs_below ho b1).cell hlt; have q2 := (rowIs_below ho b1).frozen k)
      go_roundw
      case rel =>
        have e1 := HZ.out
        have e2 := HZ1.out
        refine ⟨k + 1, by omega, by go_num, ?_, ?_, ?_, ?_⟩
        · simp [World.setCell]; omega
        · refine (World.rowIs.set (rowIs_below ho b1) k _).congr fun j hj => ?_
          by_cases e : j = k
          · simp [e, e1]
          · by_cases e2 : j < k
            · simp [e, e2, show j < k + 1 by omega]
            · simp [e, e2, show ¬ j < k + 1 by omega]
        · intro i hik
          by_cases e : i = k
          · subst e
            rw [← e1]
            exact World.rowIs.setOther o1 (by simp; omega) _
          · exact World.rowIs.setOther (rowIs_below (hi i (by omega)) b1) (by simp; omega) _
        · exact (hb.trans (b1.mono hz)).setCell (Nat.le_refl _) _
      case measure => simp [intOf] <;> omega
    · go_wp2
      go_ret
      refine ⟨rfl, rd_of_row ho fun i hi' => ?_, hb⟩
      have hc := ho.cell (i := i) (by omega)
      rw [if_pos (by omega)] at hc
      refine ⟨?_, _, _, by simpa [rowL] using hc, Nat.le_refl _, ?_, OwnI.ints (hi i (by omega)) rfl fun _ _ => rfl⟩
      · obtain ⟨_, _, _, _, _, _, _, c2, _⟩ := Tab.at hs (k := i) (by omega); exact c2
      · obtain ⟨_, _, _, _, _, _, _, c2, _⟩ := Tab.at hs (k := i) (by omega); omega

theorem infoBlk : (Try.prog.info? 41).map (fun i => (i.zero, i.size, i.bytes)) = some (some (.agg #[.int .i64 0, .slice none 0 0]), 2, 32) := by kernel_rfl
/-- make([]impl.Block, n) -/
theorem mkBlks (n : Nat) (h : n ≤ 2097152) (w : World) : (Instr.makeSlice 27 (.int .i64 (n : Int)) (.int .i64 (n : Int))).run Try.prog w =
    .ok (.slice (some ⟨w.heap.size, 0, none⟩) n n) (w.alloc (.cells (madeCells #[.int .i64 0, .slice none 0 0] (n * 2)) 41)) := by
  obtain ⟨i0, hi, hz0, hz1, hz2⟩ := info_parts infoBlk
  have h := run_make (P := Try.prog) w 27 41 i0 _ Try.underlying27 hi hz0 .i64 .i64 n n (by omega) (Int.le_refl _) (by rw [hz2]; omega) (by omega)
  simpa [hz1, Value.cells] using h

theorem toBlock_any (A : Option Addr) (c : Nat) (x : Int) (xs : List Int) (w : World) (hl : xs.length ≤ 1048576) (hs : Ints w A xs) :
    Calls Try.prog 21 #[.agg #[.int .i64 x, .slice A xs.length c]] w fun e w' => ∃ g, e = .returned (.agg #[.int .i64 x, .slice (some ⟨g, 0, none⟩) xs.length xs.length]) ∧ w.heap.size < g ∧ OwnI w' g xs.length (nth xs) ∧ Below w.heap.size w w' := by
  go_enter Try.func21, Try.ntmps21
  go_wp2_with (go_at_call 22; refine (toIntS_any _ _ _ _ hl (((hs.alloc _).alloc _).alloc _)).mono ?_; rintro e w1 ⟨rfl, o1, b1, z1⟩; obtain ⟨hc, hf⟩ := bcell b1)
  have o2 : OwnI w1 (w.heap.size + 1 + 1 + 1) xs.length (nth xs) := by simpa using o1
  have b2 : Below w.heap.size w w1 := ((((Below.refl _ _).alloc (Nat.le_refl _) _).alloc (by simp) _).alloc (by simp; omega) _).trans (b1.mono (by simp; omega))
  refine bodyPost_ret (v := .agg #[.int .i64 x, .slice (some ⟨w.heap.size + 1 + 1 + 1, 0, none⟩) xs.length xs.length]) (by simp [results, Try.results21, go_sem, hc]) rfl ⟨_, rfl, by omega, ?_, ?_⟩
  · exact World.rowIs.setOther (World.rowIs.setOther (World.rowIs.setOther o2 (by simp <;> omega) _) (by simp <;> omega) _) (by simp <;> omega) _
  · exact ((b2.setCell (by simp; omega) _).setCell (by simp) _).setCell (by simp) _

theorem toBlockS_any (a : Option Addr) (c : Nat) (xs : List Blk) (w : World) (hl : xs.length ≤ 1048576) (hs : Pit w a xs) :
    Calls Try.prog 9 #[.slice a xs.length c] w fun e w' => e = .returned (.slice (some ⟨w.heap.size, 0, none⟩) xs.length xs.length) ∧ Pit w' (some ⟨w.heap.size, 0, none⟩) xs ∧ Below w.heap.size w w' := by
  have hmk := mkBlks xs.length (by omega)
  go_enter Try.func9, Try.ntmps9
  go_wp2_with fail
  clear hmk
  go_loopw [4] (fun i wr => ∃ k : Nat, k ≤ xs.length ∧ i = .int .i64 k ∧ w.heap.size < wr.heap.size ∧ (∃ f, wr.rowIs w.heap.size 41 (xs.length * 2) f ∧ ∀ i, i < k → f (i * 2) = .int .i64 (nth xs i).worth ∧ ∃ g, f (i * 2 + 1) = .slice (some ⟨g, 0, none⟩) (nth xs i).needs.length (nth xs i).needs.length ∧ w.heap.size < g ∧ OwnI wr g (nth xs i).needs.length (nth (nth xs i).needs)) ∧ Below w.heap.size w wr) (fun i _ => xs.length - (intOf i).toNat)
  case atStart => exact ⟨0, by omega, rfl, by simp, ⟨_, by have h := World.rowIs_alloc w (madeCells #[.int .i64 0, .slice none 0 0] (xs.length * 2)) 41 (fun j => (madeCells #[.int .i64 0, .slice none 0 0] (xs.length * 2)).getD j undef) (fun i hi => by simp [hi]); rw [size_madeCells] at h; exact h, fun i hi => by omega⟩, (by repeat (first | with_reducible assumption | exact Below.refl _ _ | refine below_drewN ?_ _ | refine Below.drew ?_ | refine Below.alloc ?_ (by first | omega | (simp; done) | (simp; omega)) _ | refine Below.setCell ?_ (by first | omega | (simp; done) | (simp; omega)) _))⟩
  case round =>
    obtain ⟨k, hk, rfl, hz1, ⟨f, ho, hi⟩, hb⟩ := hrel
    by_cases hlt : k < xs.length
    · have hz := hb.size
      obtain ⟨b, off, A, C, rfl, hbw, c1, c2, c3, c4, c5, c6⟩ := Pit.at (hs.below hb) hlt
      clear hs
      have HI := Lib.hid hi
      clear hi
      go_wp2_with (go_at_call 21; refine (toBlock_any _ _ _ _ _ c3 c6).mono ?_; rintro e w1 ⟨g, rfl, hg, o1, b1⟩; have q1 := (rowIs_below ho b1).cell (i := k * 2) (by omega); have q2 := (rowIs_below ho b1).frozen (k * 2); have q3 := (rowIs_below ho b1).cell (i := k * 2 + 1) (by omega); have q4 := (rowIs_below ho b1).frozen (k * 2 + 1))
      go_roundw
      case rel =>
        refine ⟨k + 1, by omega, by go_num, by have := b1.size; simp [World.setCell]; omega, ⟨_, World.rowIs.set (World.rowIs.set (rowIs_below ho b1) (k * 2) _) (k * 2 + 1) _, ?_⟩, ?_⟩
        · intro i hik
          by_cases e : i = k
          · subst e
            refine ⟨by simp, g, by simp, by omega, World.rowIs.setOther (World.rowIs.setOther o1 (by simp; omega) _) (by simp; omega) _⟩
          · obtain ⟨f1, g', f2, f3, f4⟩ := HI.out i (by omega)
            refine ⟨?_, g', ?_, f3, World.rowIs.setOther (World.rowIs.setOther (rowIs_below f4 b1) (by simp; omega) _) (by simp; omega) _⟩
            · rw [if_neg (by omega), if_neg (by omega), f1]
            · rw [if_neg (by omega), if_neg (by omega), f2]
        · exact ((hb.trans (b1.mono hz)).setCell (Nat.le_refl _) _).setCell (Nat.le_refl _) _
      case measure => simp [intOf] <;> omega
    · go_wp2
      go_ret
      refine ⟨rfl, rd_of_row ho fun i hi' => ?_, hb⟩
      obtain ⟨f1, g, f2, f3, f4⟩ := hi i (by omega)
      have hc := ho.cell (i := i * 2) (by omega)
      have hc' := ho.cell (i := i * 2 + 1) (by omega)
      obtain ⟨_, _, _, _, _, _, _, _, c3, _⟩ := Pit.at hs (k := i) (by omega)
      rw [f1] at hc
      rw [f2] at hc'
      exact ⟨hc, c3, _, _, hc', Nat.le_refl _, by omega, OwnI.ints f4 rfl fun _ _ => rfl⟩
end Go.Proofs.Yteadmhigkpecgaa
