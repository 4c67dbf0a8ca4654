/- The law FnPitClose, walked. -/
import Derived.Test.YtnjpifaphmeepaaDoorV0
namespace Go.Proofs.YtnjpifaphmeepaaDoor
open Go Go.RowKit

theorem toB {f : FuncId} {args : Array Value} {w : World} {v : Value} (h : Calls Tryd.prog f args w fun e w' => e = .returned v ∧ ∃ q, w' = w.drewN q) : Calls Tryd.prog f args w fun e w' => e = .returned v ∧ Below w.heap.size w w' :=
  h.mono fun _ _ ⟨h1, q, h2⟩ => ⟨h1, by rw [h2]; exact below_drewN (Below.refl _ _) q⟩
theorem toE {f : FuncId} {args : Array Value} {w : World} {v : Value} (h : Calls Tryd.prog f args w fun e w' => e = .returned v ∧ w = w') : Calls Tryd.prog f args w fun e w' => e = .returned v ∧ Below w.heap.size w w' :=
  h.mono fun _ _ ⟨h1, h2⟩ => ⟨h1, by rw [← h2]; exact Below.refl _ _⟩
theorem and_sub {a b : Nat} : a &&& b = b ↔ ∀ i, b.testBit i = true → a.testBit i = true := by
  constructor
  · intro h i hi
    have := congrArg (fun x => x.testBit i) h
    simp only [Nat.testBit_and, hi, Bool.and_true] at this
    exact this
  · intro h
    refine Nat.eq_of_testBit_eq fun i => ?_
    rw [Nat.testBit_and]
    cases hb : b.testBit i
    · simp
    · rw [h i hb]; rfl
theorem mayF_nat {bs : List Blk} (hp : pitOk bs = true) {m : Nat} (hm : m < 2 ^ bs.length) : mayF bs m = mayOf bs m := by simp [mayF, setOk_nat hp hm]
theorem close_may {bs : List Blk} (hp : pitOk bs = true) {m : Nat} (hm : m < 2 ^ bs.length) : mayF bs (closeOf bs m : Nat) = true := by
  rw [mayF_nat hp (closeOf_lt hp hm), may_closed hp]; exact closeOf_closed hp m
theorem close_least {bs : List Blk} (hp : pitOk bs = true) {m o : Nat} (ho : mayOf bs o = true) (h : o &&& m = m) : o &&& closeOf bs m = closeOf bs m := by
  rw [and_sub] at h ⊢
  have := closeOf_least hp (m := m) (S := fun i => o.testBit i) h (fun i j hi h1 h2 => (may_closed hp).1 ho i j hi (by have := need_lt hp hi h2; omega) h1 h2)
  exact this
theorem close_close {bs : List Blk} (hp : pitOk bs = true) (m : Nat) : closeOf bs (closeOf bs m) = closeOf bs m := by
  refine Nat.eq_of_testBit_eq fun i => ?_
  cases h : (closeOf bs m).testBit i
  · cases h2 : (closeOf bs (closeOf bs m)).testBit i
    · rfl
    · have := closeOf_least hp (m := closeOf bs m) (S := fun i => (closeOf bs m).testBit i) (fun _ h => h) (fun i j hi h1 h2 => closeOf_closed hp m i j hi (by have := need_lt hp hi h2; omega) h1 h2) i h2
      rw [h] at this; cases this
  · exact closeOf_sub hp h
theorem pow_int {n : Nat} (h : n ≤ 8) : wrap64 (2 ^ n) = ((2 ^ n : Nat) : Int) := by rw [wrap_pow (by omega), nat_pow_int]
theorem beq_nat {a b : Nat} (h : a = b) : (((a : Nat) : Int) == ((b : Nat) : Int)) = true := by simp [h]
theorem bne_nat {a b : Nat} (h : a ≠ b) : (((a : Nat) : Int) == ((b : Nat) : Int)) = false := by simp; omega

set_option maxRecDepth 100000 in
set_option maxHeartbeats 1000000 in
theorem lawPitClose (a : Option Addr) (n c : Nat) (w : World) (hc : n ≤ c) (hn : n ≤ 9223372036854775807) (hb : n ≤ 1048576 → Bytes w a n) (hpw : Pow w) :
    Calls Tryd.prog 4 #[.slice a n c] w fun e w' => e = .returned (.bool true) ∧ Below w.heap.size w w' := by
  by_cases hbig : 1048576 < n
  · go_enter Tryd.func4, Tryd.ntmps4
    go_wp2_with fail
    go_ret
    exact ⟨rfl, (by repeat (first | with_reducible assumption | exact Below.refl _ _ | refine below_drewN ?_ _ | refine Below.drew ?_ | refine Below.alloc ?_ (by first | omega | (simp; done) | (simp; omega)) _ | refine Below.setCell ?_ (by first | omega | (simp; done) | (simp; omega)) _))⟩
  replace hb := hb (by omega)
  go_enter Tryd.func4, Tryd.ntmps4
  go_wp2_with fail
  refine (drawPitClose_any a n c w hc (by omega) hb).mono ?_
  rintro e w1 ⟨bs, g, C, s, rfl, h9, hC, hs1, hs2, hp, hbt⟩
  clear hb
  go_wp2_with fail
  refine (pitClose_any _ _ bs s _ (by omega) hp).mono ?_
  rintro e w2 ⟨rfl, bN⟩
  replace hp := hp.below bN
  replace hbt := hbt.trans (bN.mono hbt.size)
  clear bN
  go_wp2_with fail
  refine (toB (sClose_any _ _ bs s _ (by omega) hp)).mono ?_
  rintro e w2 ⟨rfl, bN⟩
  replace hp := hp.below bN
  replace hbt := hbt.trans (bN.mono hbt.size)
  clear bN
  cases hv : setOk bs s
  · have e1 : pitCloseF bs s = -1 := by simp [pitCloseF, hv]
    rw [e1]
    clear e1
    go_wp2_with fail
    refine (alive_any _ (hpw.below hbt)).mono ?_
    rintro e w2 ⟨rfl, bN⟩
    replace hp := hp.below bN
    replace hbt := hbt.trans (bN.mono hbt.size)
    clear bN
    go_wp2_with fail
    go_ret
    exact ⟨rfl, hbt⟩
  obtain ⟨hok, m, rfl, hm⟩ := setOk_of hv
  have hl8 := pitOk_len hok
  have e1 : pitCloseF bs (m : Int) = ((closeOf bs m : Nat) : Int) := by simp [pitCloseF, hv]
  rw [e1]
  clear e1
  have hP := pow_int hl8
  have hmin : min bs.length 64 = bs.length := by omega
  have hx := closeOf_lt hok hm
  have hmay := close_may hok hm
  have hcc : pitCloseF bs ((closeOf bs m : Nat) : Int) = ((closeOf bs m : Nat) : Int) := by
    unfold pitCloseF; rw [setOk_nat hok hx, if_pos rfl, Int.toNat_natCast, close_close hok]
  have hsub : closeOf bs m &&& m = m := and_sub.2 fun i hi => closeOf_sub hok hi
  have HL : Hid (∀ o : Nat, o < 2 ^ bs.length → mayF bs (o : Int) = true → o &&& m = m → o &&& closeOf bs m = closeOf bs m) := fun o ho h1 h2 => close_least hok (by rw [← mayF_nat hok ho]; exact h1) h2
  have h256 := pow_le_of (n := bs.length) (k := 8) hl8
  have HM := Lib.hid hmay
  have HCC := Lib.hid hcc
  have HSB := Lib.hid hsub
  clear hmay hcc hsub
  generalize closeOf bs m = x at hx HM HCC HSB HL ⊢
  obtain ⟨P, hPP⟩ : ∃ P, 2 ^ bs.length = P := ⟨_, rfl⟩
  rw [hPP] at hP hx hm h256
  rw [hPP] at HL
  have hm' : m < 256 := by omega
  have hx' : x < 256 := by omega
  clear hPP hs1 hs2
  go_wp2_with fail
  go_loopw [6] (fun o wr => ∃ (k : Nat), k ≤ P ∧ o = .int .i64 k ∧ Pit wr (some ⟨g, 0, none⟩) bs ∧ Below w.heap.size w wr) (fun o _ => P - (intOf o).toNat)
  case atStart => exact ⟨0, by omega, rfl, hp, hbt⟩
  case round =>
    clear hp hbt
    obtain ⟨k, hk, rfl, hp, hbt⟩ := hrel
    by_cases hlt : k < P
    · go_wp2_with fail
      refine (both_any k m _ (by omega) hm').mono ?_
      rintro e w2 ⟨rfl, rfl⟩
      go_wp2_with fail
      refine (both_any k x _ (by omega) hx').mono ?_
      rintro e w2 ⟨rfl, rfl⟩
      by_cases q1 : k &&& m = m
      · have b1 := beq_nat q1
        have HQ := Lib.hid q1
        clear q1
        go_wp2_with fail
        refine (pitMay_any _ _ bs (k : Int) _ (by omega) hp).mono ?_
        rintro e w2 ⟨rfl, bN⟩
        replace hp := hp.below bN
        replace hbt := hbt.trans (bN.mono hbt.size)
        clear bN
        cases hmk : mayF bs (k : Int)
        · go_wp2_with fail
          go_roundw
          case rel => exact ⟨k + 1, by omega, by go_num, hp, hbt⟩
          case measure => simp [intOf] <;> omega
        · have b2 := beq_nat (HL.out k hlt hmk HQ.out)
          have b3 : ((((k &&& x : Nat)) : Int) != ((x : Nat) : Int)) = false := by simp [HL.out k hlt hmk HQ.out]
          go_wp2_with fail
          go_roundw
          case rel => exact ⟨k + 1, by omega, by go_num, hp, hbt⟩
          case measure => simp [intOf] <;> omega
      · have b1 := bne_nat q1
        have b2 : ¬ (((k &&& m : Nat) : Int) = (m : Int)) := by omega
        go_wp2_with fail
        go_roundw
        case rel => exact ⟨k + 1, by omega, by go_num, hp, hbt⟩
        case measure => simp [intOf] <;> omega
    · go_wp2_with fail
      refine (both_any x m _ hx' hm').mono ?_
      rintro e w2 ⟨rfl, rfl⟩
      rw [HSB.out]
      go_wp2_with fail
      refine (pitMay_any _ _ bs (x : Int) _ (by omega) hp).mono ?_
      rintro e w2 ⟨rfl, bN⟩
      replace hp := hp.below bN
      replace hbt := hbt.trans (bN.mono hbt.size)
      clear bN
      rw [HM.out]
      have bb : ((m : Int) == (m : Int)) = true := by simp
      go_wp2_with fail
      refine (pitClose_any _ _ bs (x : Int) _ (by omega) hp).mono ?_
      rintro e w2 ⟨rfl, bN⟩
      replace hp := hp.below bN
      replace hbt := hbt.trans (bN.mono hbt.size)
      clear bN
      rw [HCC.out]
      go_wp2_with fail
      go_ret
      exact ⟨rfl, hbt⟩
end Go.Proofs.YtnjpifaphmeepaaDoor
