/- The law FnExactPayMost, walked. -/
import Derived.Test.YteadmhigkpecgaaS6
import Derived.Test.YteadmhigkpecgaaW10
import Derived.Test.YteadmhigkpecgaaLSz
import Derived.Test.YteadmhigkpecgaaLTo
import Derived.Test.YteadmhigkpecgaaLEq
namespace Go.Proofs.Yteadmhigkpecgaa
open Go Go.RowKit

theorem exactPayMost (a1 : Option Addr) (c1 : Nat) (bs : List Blk) (w : World) (hl : bs.length ≤ 9223372036854775807) (hs : RawPit w a1 bs) :
    Calls Try.prog 5 #[.slice a1 bs.length c1] w fun e w' => e = .returned (.bool true) ∧ Below w.heap.size w w' := by
  by_cases h1 : szTab (needsOf bs) 1048576 < 0
  · go_enter Try.func5, Try.ntmps5
    go_wp2_with (go_at_call 6; refine (szBlockS_any _ _ _ _ _ hl hs (by omega) (by omega)).mono ?_; rintro e w1 ⟨rfl, b1⟩)
    go_ret
    exact ⟨rfl, b1⟩
  obtain ⟨h2, h3, h4⟩ := szTab_le (xs := needsOf bs) (left := 1048576) (by omega)
  have hlb : bs.length ≤ 1048576 := by simp [needsOf] at h3; omega
  have hp : Pit w a1 bs := hs.pit fun k hk => by have := h4 k (by simp [needsOf]; exact hk); rw [nth_needsOf hk] at this; omega
  clear h3 h4
  have hne : (payMostF bs != payMostF bs) = false := by simp
  go_enter Try.func5, Try.ntmps5
  go_wp2_with fail
  refine (szBlockS_any _ _ _ _ _ hl hs (by omega) (by omega)).mono ?_
  rintro e w1 ⟨rfl, b1⟩
  go_wp2_with fail
  clear h1 h2 hl hs
  refine (toBlockS_any _ _ _ _ hlb (hp.below b1)).mono ?_
  rintro e w2 ⟨rfl, p2, b2⟩
  replace b2 := b1.trans (b2.mono b1.size)
  go_wp2_with fail
  refine (sPayMost_any _ _ _ _ hlb p2).mono ?_
  rintro e w4 ⟨rfl, c4⟩
  have b4 := b2.trans (c4.mono b2.size)
  clear c4
  clear p2 b2
  go_wp2_with fail
  refine (toBlockS_any _ _ _ _ hlb (hp.below b4)).mono ?_
  rintro e w5 ⟨rfl, p5, c5⟩
  have b5 := b4.trans (c5.mono b4.size)
  clear c5 b4
  go_wp2_with fail
  refine (payMost_any _ _ _ _ hlb p5).mono ?_
  rintro e w7 ⟨rfl, c7⟩
  have b7 := b5.trans (c7.mono b5.size)
  have p7 := p5.below c7
  clear c7 b5 p5
  go_wp2_with fail
  refine (toBlockS_any _ _ _ _ hlb (hp.below b7)).mono ?_
  rintro e w8 ⟨rfl, r8, c8⟩
  have b8 := b7.trans (c8.mono b7.size)
  have p8 := p7.below c8
  clear c8 b7 p7
  go_wp2_with fail
  refine (eqBlockS_same _ _ _ _ _ _ hlb p8 r8).mono ?_
  rintro e w9 ⟨rfl, c9⟩
  have b9 := b8.trans (c9.mono b8.size)
  clear c9 b8 p8 r8
  go_wp2_with fail
  go_ret
  exact ⟨rfl, b9⟩
end Go.Proofs.Yteadmhigkpecgaa
