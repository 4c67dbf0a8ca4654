/- The law FnPitMay, walked. -/
import Derived.Test.YtnjpifaphmeepaaDoorLat
import Derived.Test.YtnjpifaphmeepaaDoorW9
namespace Go.Proofs.YtnjpifaphmeepaaDoor
open Go Go.RowKit

set_option maxRecDepth 100000 in
set_option maxHeartbeats 1000000 in
theorem lawPitMay (a : Option Addr) (n c : Nat) (w : World) (hc : n ≤ c) (hn : n ≤ 9223372036854775807) (hb : n ≤ 1048576 → Bytes w a n) (hpw : Pow w) :
    Calls Tryd.prog 10 #[.slice a n c] w fun e w' => e = .returned (.bool true) ∧ Below w.heap.size w w' := by
  by_cases hbig : 1048576 < n
  · go_enter Tryd.func10, Tryd.ntmps10
    go_wp2_with fail
    go_ret
    exact ⟨rfl, (by repeat (first | with_reducible assumption | exact Below.refl _ _ | refine below_drewN ?_ _ | refine Below.drew ?_ | refine Below.alloc ?_ (by first | omega | (simp; done) | (simp; omega)) _ | refine Below.setCell ?_ (by first | omega | (simp; done) | (simp; omega)) _))⟩
  replace hb := hb (by omega)
  go_enter Tryd.func10, Tryd.ntmps10
  go_wp2_with fail
  refine (drawPitMay_any a n c w hc (by omega) hb).mono ?_
  rintro e w1 ⟨bs, g, C, s, rfl, h9, hC, hs1, hs2, hp, hbt⟩
  clear hb
  go_wp2_with fail
  refine (pitMay_any _ _ bs s _ (by omega) hp).mono ?_
  rintro e w2 ⟨rfl, bN⟩
  replace hp := hp.below bN
  replace hbt := hbt.trans (bN.mono hbt.size)
  clear bN
  go_wp2_with fail
  refine (toB (sMay_any _ _ bs s _ (by omega) hp)).mono ?_
  rintro e w2 ⟨rfl, bN⟩
  replace hp := hp.below bN
  replace hbt := hbt.trans (bN.mono hbt.size)
  clear bN
  cases hv : mayF bs s
  · go_wp2_with fail
    refine (alive_any _ (hpw.below hbt)).mono ?_
    rintro e w2 ⟨rfl, bN⟩
    replace hp := hp.below bN
    replace hbt := hbt.trans (bN.mono hbt.size)
    clear bN
    go_wp2_with fail
    go_ret
    exact ⟨rfl, hbt⟩
  obtain ⟨hok, m, rfl, hm⟩ := setOk_of (mayF_set hv)
  have hl8 := pitOk_len hok
  obtain ⟨o, e1, ho⟩ := best_is hok
  have hmay : mayOf bs m = true := by rw [← mayF_nat hok hm]; exact hv
  have hm2 : m < 256 := Nat.lt_of_lt_of_le hm (pow_le_of (k := 8) hl8)
  have ho2 : o < 256 := Nat.lt_of_lt_of_le ho.lt (pow_le_of (k := 8) hl8)
  have m1 : mayF bs ((m &&& o : Nat) : Int) = true := by rw [mayF_nat hok (Nat.and_lt_two_pow _ ho.lt)]; exact may_and hok hmay ho.may
  have m2 : mayF bs ((m ||| o : Nat) : Int) = true := by rw [mayF_nat hok (Nat.or_lt_two_pow hm ho.lt)]; exact may_or hok hmay ho.may
  have m3 := zero_may hok
  have HE := Lib.hid e1
  have H1 := Lib.hid m1
  have H2 := Lib.hid m2
  have H3 := Lib.hid m3
  have hmx : max (o : Int) 0 = (o : Int) := by omega
  clear e1 m1 m2 m3 ho hmay hv
  go_wp2_with fail
  refine (pitBest_any _ _ bs _ (by omega) hp).mono ?_
  rintro e w2 ⟨rfl, bN⟩
  replace hp := hp.below bN
  replace hbt := hbt.trans (bN.mono hbt.size)
  clear bN
  rw [HE.out]
  go_wp2_with fail
  refine (both_any m o _ hm2 ho2).mono ?_
  rintro e w2 ⟨rfl, rfl⟩
  go_wp2_with fail
  refine (pitMay_any _ _ bs ((m &&& o : Nat) : Int) _ (by omega) hp).mono ?_
  rintro e w2 ⟨rfl, bN⟩
  replace hp := hp.below bN
  replace hbt := hbt.trans (bN.mono hbt.size)
  clear bN
  rw [H1.out]
  go_wp2_with fail
  refine (pitMay_any _ _ bs ((m ||| o : Nat) : Int) _ (by omega) hp).mono ?_
  rintro e w2 ⟨rfl, bN⟩
  replace hp := hp.below bN
  replace hbt := hbt.trans (bN.mono hbt.size)
  clear bN
  rw [H2.out]
  go_wp2_with fail
  refine (pitMay_any _ _ bs 0 _ (by omega) hp).mono ?_
  rintro e w2 ⟨rfl, bN⟩
  replace hp := hp.below bN
  replace hbt := hbt.trans (bN.mono hbt.size)
  clear bN
  rw [H3.out]
  go_wp2_with fail
  go_ret
  exact ⟨rfl, hbt⟩
end Go.Proofs.YtnjpifaphmeepaaDoor
