/- Walks: texts in the reference: spec.l1Number. -/
import Derived.Test.YtgggbapcpjfljaaGreatDoorTX1
import Derived.Test.YtgggbapcpjfljaaGreatDoorG3
import Derived.Lib.ItoaMem
import Derived.Laws.IdiomStrings
namespace Go.Proofs.YtgggbapcpjfljaaGreatDoor
open Go Go.RowKit Go.Sort

def decB (u : Nat) : ByteArray := ⟨(Lib.decDigits u).toArray⟩
def dig (u : Nat) : ByteArray := ⟨#[UInt8.ofNat (48 + u)]⟩

theorem drew_size (w : World) : w.drew.heap.size = w.heap.size := rfl
theorem byteStr (w : World) (X u : Nat) (hu : u < 10) (hc : w.cell? ⟨X, 0, none⟩ = some (.int .u8 (48 + (u : Int)))) :
    (convert 82 9 (.slice (some ⟨X, 0, none⟩) 1 1)).run Tryz.prog w = .ok (.string (dig u)) w := by
  have h := run_convert_bytes_back (P := Tryz.prog) w 82 9 5 ⟨X, 0, none⟩ 1 [UInt8.ofNat (48 + u)] Tryz.underlying82 Tryz.underlying5 Tryz.underlying9 (fun j hj => by
    have hj0 : j = 0 := by simpa using hj
    subst hj0
    rw [Addr.add_lit, Nat.add_zero, hc]
    simp; omega)
  exact h

set_option maxRecDepth 100000 in
theorem l1Num_one (u : Nat) (hu : u < 10) (w : World) :
    Calls Tryz.prog 55 #[.int .i64 (u : Int)] w fun e w' => e = .returned (.string (decB u)) ∧ Below w.heap.size w w' := by
  have hd : decB u = dig u := by unfold decB dig; rw [Lib.decDigits_one hu]
  have hw1 : IntKind.i64.wrap ((48 : Int) + u) = (48 + u : Int) := by rw [IntKind.wrap_i64]; omega
  have hn : ¬ ((u : Int) < 0) := by omega
  have hn2 : ((u : Int) < 10) := by omega
  have kc := byteStr (w.alloc (.cells #[.int .u8 (48 + (u : Int))] 5)) w.heap.size u hu (by simp)
  have HD := Lib.hid hd
  clear hd
  go_enter Tryz.func55, Tryz.ntmps55
  go_wp2
  go_ret
  exact ⟨by rw [HD.out]; rfl, (by repeat (first | with_reducible assumption | exact Below.refl _ _ | refine below_drewN ?_ _ | refine Below.drew ?_ | refine Below.alloc ?_ (by first | omega | (simp; done) | (simp; omega)) _ | refine Below.setCell ?_ (by first | omega | (simp; done) | (simp; omega)) _))⟩

theorem decB_step (u : Nat) (h : ¬ u < 10) : decB u = decB (u / 10) ++ dig (u % 10) := by
  unfold decB dig
  rw [Lib.decDigits, dif_neg h]
  apply ByteArray.ext
  simp

theorem decB_size (u : Nat) (h : u ≤ 1000000000000000) : (decB u).size ≤ 21 := by
  have := itoaB_size (n := (u : Int)) (by omega) (by omega)
  simpa [itoaB, decB, Lib.itoa_nonneg] using this

set_option maxRecDepth 100000 in
set_option maxHeartbeats 800000 in
theorem l1Num_nat (u : Nat) (hu : u ≤ 1000000000000000) : ∀ (w : World),
    Calls Tryz.prog 55 #[.int .i64 (u : Int)] w fun e w' => e = .returned (.string (decB u)) ∧ Below w.heap.size w w' := by
  induction u using Nat.strongRecOn with
  | _ u ih =>
    intro w
    by_cases h1 : u < 10
    · exact l1Num_one u h1 w
    obtain ⟨q, hq⟩ : ∃ q, q = u / 10 := ⟨_, rfl⟩
    obtain ⟨r, hr⟩ : ∃ r, r = u % 10 := ⟨_, rfl⟩
    have hd := decB_step u h1
    have ih2 := ih (u / 10) (by omega) (by omega)
    have hz := decB_size (u / 10) (by omega)
    have hlt : u % 10 < 10 := Nat.mod_lt _ (by decide)
    have e1 : (u : Int).tdiv 10 = ((u / 10 : Nat) : Int) := rfl
    have e2 : (u : Int).tmod 10 = ((u % 10 : Nat) : Int) := rfl
    rw [← hq] at hd ih2 hz e1
    rw [← hr] at hd hlt e2
    have hs : (dig r).size = 1 := rfl
    have hw1 : IntKind.i64.wrap ((48 : Int) + (r : Int)) = (48 + (r : Int) : Int) := by rw [IntKind.wrap_i64]; omega
    have hw2 : IntKind.i64.wrap (q : Int) = (q : Int) := by rw [IntKind.wrap_i64]; omega
    have hw3 : IntKind.u8.wrap ((48 : Int) + (r : Int)) = (48 + (r : Int) : Int) := by rw [IntKind.wrap_u8]; omega
    have hw4 : IntKind.i64.wrap (r : Int) = (r : Int) := by rw [IntKind.wrap_i64]; omega
    have hn : ¬ ((u : Int) < 0) := by omega
    have hn2 : ¬ ((u : Int) < 10) := by omega
    have HD := Lib.hid hd
    have k1 := fun (w' : World) => byteStr (w'.alloc (.cells #[.int .u8 (48 + (r : Int))] 5)) w'.heap.size r hlt (by simp)
    have k2 : ∀ w' : World, (convert 82 9 (.slice (some ⟨w'.heap.size, 0, none⟩) 1 1)).run Tryz.prog (w'.alloc (.cells #[.int .u8 (48 + (r : Int))] 5)).drew = .ok (.string (dig r)) (w'.alloc (.cells #[.int .u8 (48 + (r : Int))] 5)).drew := fun w' => k1 w'.drew
    clear hd ih hq hr
    go_enter Tryz.func55, Tryz.ntmps55
    go_wp2_with fail
    go_region_with (go_at_call 55; refine (ih2 _).mono ?_; rintro e w1 ⟨rfl, b1⟩; have kc := b1.cell (p := ⟨w.heap.size, 0, none⟩); simp at kc; have b2 : Below w.heap.size w w1 := Below.trans (by repeat (first | exact Below.refl _ _ | refine Below.drew ?_ | refine Below.alloc ?_ (by simp) _)) (b1.mono (by simp)); clear b1; first | have kq := byteStr w1 w.heap.size r hlt kc | skip)
    all_goals
      go_wp2
      go_ret
      exact ⟨by rw [HD.out]; rfl, by first | exact b2 | exact b2.alloc b2.size _⟩

theorem l1Num_neg (u : Nat) (h1 : 1 ≤ u) (hu : u ≤ 1000000000000000) (w : World) :
    Calls Tryz.prog 55 #[.int .i64 (-(u : Int))] w fun e w' => e = .returned (.string (itoaB (-(u : Int)))) ∧ Below w.heap.size w w' := by
  have hd : itoaB (-(u : Int)) = (⟨#[45]⟩ : ByteArray) ++ decB u := by
    unfold itoaB decB; rw [Lib.itoa_neg u h1]; apply ByteArray.ext; simp
  have hz := decB_size u hu
  have i1 := l1Num_nat u hu
  have hn : (-(u : Int) < 0) := by omega
  have hne : ¬ (-(u : Int) = (u : Int)) := by omega
  have hw2 : IntKind.i64.wrap (u : Int) = (u : Int) := by rw [IntKind.wrap_i64]; omega
  have HD := Lib.hid hd
  clear hd
  go_enter Tryz.func55, Tryz.ntmps55
  go_wp2_with (go_at_call 55; refine (i1 _).mono ?_; rintro e w' ⟨rfl, hb⟩)
  go_ret
  exact ⟨by rw [HD.out]; rfl, hb⟩

theorem l1Num_any (n : Int) (h0 : -1000000000000000 ≤ n) (h1 : n ≤ 1000000000000000) (w : World) :
    Calls Tryz.prog 55 #[.int .i64 n] w fun e w' => e = .returned (.string (itoaB n)) ∧ Below w.heap.size w w' := by
  by_cases h : n < 0
  · have := l1Num_neg n.natAbs (by omega) (by omega) w
    rwa [show -((n.natAbs : Nat) : Int) = n by omega] at this
  · have := l1Num_nat n.toNat (by omega) w
    rw [show ((n.toNat : Nat) : Int) = n by omega] at this
    rwa [show decB n.toNat = itoaB n by unfold decB itoaB Lib.itoa; rw [if_neg h]] at this
end Go.Proofs.YtgggbapcpjfljaaGreatDoor
