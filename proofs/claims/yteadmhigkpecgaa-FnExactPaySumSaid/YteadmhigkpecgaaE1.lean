/- The law FnExactPaySum, walked: for pits and tables that lie anywhere in memory it returns true, and leaves memory as it was. -/
import Derived.Test.YteadmhigkpecgaaS2
import Derived.Test.YteadmhigkpecgaaLSz
import Derived.Test.YteadmhigkpecgaaLTo
import Derived.Test.YteadmhigkpecgaaLEq
namespace Go.Proofs.Yteadmhigkpecgaa
open Go Go.RowKit

theorem exactPaySum (a1 a2 : Option Addr) (c1 c2 : Nat) (bs : List Blk) (pay : List (List Int)) (w : World) (hl : bs.length ≤ 9223372036854775807) (hl2 : pay.length ≤ 9223372036854775807) (hs : RawPit w a1 bs) (ht : RawTab w a2 pay) :
    Calls Try.prog 3 #[.slice a1 bs.length c1, .slice a2 pay.length c2] w fun e w' => e = .returned (.bool true) ∧ Below w.heap.size w w' := by
  by_cases h1 : szTab (needsOf bs) 1048576 < 0
  · go_enter Try.func3, Try.ntmps3
    go_wp2_with (go_at_call 6; refine (szBlockS_any _ _ _ _ _ hl hs (by omega) (by omega)).mono ?_; rintro e w1 ⟨rfl, b1⟩)
    go_ret
    exact ⟨rfl, b1⟩
  obtain ⟨h2, h3, h4⟩ := szTab_le (xs := needsOf bs) (left := 1048576) (by omega)
  have hlb : bs.length ≤ 1048576 := by simp [needsOf] at h3; omega
  have hp : Pit w a1 bs := hs.pit fun k hk => by have := h4 k (by simp [needsOf]; exact hk); rw [nth_needsOf hk] at this; omega
  clear h3 h4
  by_cases h5 : szTab pay (szTab (needsOf bs) 1048576) < 0
  · go_enter Try.func3, Try.ntmps3
    go_wp2_with fail
    refine (szBlockS_any _ _ _ _ _ hl hs (by omega) (by omega)).mono ?_
    rintro e w1 ⟨rfl, b1⟩
    go_wp2_with fail
    refine (szIntSS_any _ _ _ _ _ hl2 (ht.below b1) (by omega) (by omega)).mono ?_
    rintro e w2 ⟨rfl, rfl⟩
    go_wp2_with fail
    go_ret
    exact ⟨rfl, b1⟩
  obtain ⟨h6, h7, h8⟩ := szTab_le (xs := pay) (left := szTab (needsOf bs) 1048576) (by omega)
  have hlp : pay.length ≤ 1048576 := by omega
  have hq : Tab w a2 pay := ht.tab fun k hk => by have := h8 k hk; omega
  clear h7 h8
  have hne : (paySumF bs pay != paySumF bs pay) = false := by simp
  go_enter Try.func3, Try.ntmps3
  go_wp2_with fail
  refine (szBlockS_any _ _ _ _ _ hl hs (by omega) (by omega)).mono ?_
  rintro e w1 ⟨rfl, b1⟩
  go_wp2_with fail
  refine (szIntSS_any _ _ _ _ _ hl2 (ht.below b1) (by omega) (by omega)).mono ?_
  rintro e w2 ⟨rfl, rfl⟩
  go_wp2_with fail
  clear h1 h2 h5 h6 hl hl2 hs ht
  refine (toBlockS_any _ _ _ _ hlb (hp.below b1)).mono ?_
  rintro e w2 ⟨rfl, p2, b2⟩
  replace b2 := b1.trans (b2.mono b1.size)
  go_wp2_with fail
  refine (toIntSS_any _ _ _ _ hlp (hq.below b2)).mono ?_
  rintro e w3 ⟨rfl, q3, c3⟩
  have p3 := p2.below c3
  have b3 := b2.trans (c3.mono b2.size)
  clear p2
  go_wp2_with fail
  refine (spaySum_any _ _ _ _ _ _ _ hlb hlp p3 q3).mono ?_
  rintro e w4 ⟨rfl, c4⟩
  have b4 := b3.trans (c4.mono b3.size)
  clear p3 q3 c3 c4 b2 b3
  go_wp2_with fail
  refine (toBlockS_any _ _ _ _ hlb (hp.below b4)).mono ?_
  rintro e w5 ⟨rfl, p5, c5⟩
  have b5 := b4.trans (c5.mono b4.size)
  clear c5 b4
  go_wp2_with fail
  refine (toIntSS_any _ _ _ _ hlp (hq.below b5)).mono ?_
  rintro e w6 ⟨rfl, q6, c6⟩
  have b6 := b5.trans (c6.mono b5.size)
  have p6 := p5.below c6
  clear c6 b5 p5
  go_wp2_with fail
  refine (paySum_any _ _ _ _ _ _ _ hlb hlp p6 q6).mono ?_
  rintro e w7 ⟨rfl, c7⟩
  have b7 := b6.trans (c7.mono b6.size)
  have p7 := p6.below c7
  have q7 := q6.below c7
  clear c7 b6 p6 q6
  go_wp2_with fail
  refine (toBlockS_any _ _ _ _ hlb (hp.below b7)).mono ?_
  rintro e w8 ⟨rfl, r8, c8⟩
  have b8 := b7.trans (c8.mono b7.size)
  have p8 := p7.below c8
  have q8 := q7.below c8
  clear c8 b7 p7 q7
  go_wp2_with fail
  refine (eqBlockS_same _ _ _ _ _ _ hlb p8 r8).mono ?_
  rintro e w9 ⟨rfl, c9⟩
  have b9 := b8.trans (c9.mono b8.size)
  have q9 := q8.below c9
  clear c9 b8 p8 q8 r8
  go_wp2_with fail
  refine (toIntSS_any _ _ _ _ hlp (hq.below b9)).mono ?_
  rintro e w10 ⟨rfl, r10, c10⟩
  have b10 := b9.trans (c10.mono b9.size)
  have q10 := q9.below c10
  clear c10 b9 q9
  go_wp2_with fail
  refine (eqIntSS_same _ _ _ _ _ _ hlp q10 r10).mono ?_
  rintro e w11 ⟨rfl, c11⟩
  have b11 := b10.trans (c11.mono b10.size)
  clear c11 b10 q10 r10
  go_wp2_with fail
  go_ret
  exact ⟨rfl, b11⟩
end Go.Proofs.Yteadmhigkpecgaa
