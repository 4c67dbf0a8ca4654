/- The law FnBookText, walked: texts of books are read (written by wip/bin/gen_vb13.py). -/
import Derived.Test.YtcilgpmeliegoaaGreatDoorR4
import Derived.Test.YtcilgpmeliegoaaGreatDoorT1
import Derived.Test.YtcilgpmeliegoaaGreatDoorB3
import Derived.Test.YtcilgpmeliegoaaGreatDoorB1
import Derived.Test.YtcilgpmeliegoaaGreatDoorT7
set_option linter.unusedSimpArgs false
set_option linter.unusedVariables false
namespace Go.Proofs.YtcilgpmeliegoaaGreatDoor
open Go Go.RowKit Go.Sort

theorem size0_eq {t : ByteArray} (h : t.size = 0) : t = ⟨#[]⟩ := by
  obtain ⟨l⟩ := t
  exact congrArg _ (Array.eq_empty_of_size_eq_zero h)
theorem toList_ne {t : ByteArray} (h : t.size ≠ 0) : t.toList.isEmpty = false := by
  have h2 : t.toList ≠ [] := fun e => h (by
    have : t.size = t.data.toList.length := rfl
    rw [this, ← Lib.toList_data, e]; rfl)
  cases e : t.toList with
  | nil => exact absurd e h2
  | cons _ _ => rfl
theorem bookB_bad {b : Bk} (h : (bookB b).size = 0) : bkOk b = false := by
  cases hb : bkOk b
  · rfl
  · have := bookB_size hb; omega

set_option maxRecDepth 100000 in
set_option maxHeartbeats 4000000 in
theorem lawBookText (a : Option Addr) (n c : Nat) (w : World) (hc : n ≤ c) (hn : n ≤ 9223372036854775807) (hb : n ≤ 1048576 → Bytes w a n) (hpw : Lby w) :
    Calls Tryz.prog 3 #[.slice a n c] w fun e w' => e = .returned (.bool true) ∧ Below w.heap.size w w' := by
  by_cases hbig : 1048576 < n
  · go_enter Tryz.func3, Tryz.ntmps3
    go_wp2_with fail
    go_ret
    exact ⟨rfl, (by repeat (first | with_reducible assumption | exact Below.refl _ _ | refine below_drewN ?_ _ | refine Below.drew ?_ | refine Below.alloc ?_ (by first | omega | (simp; done) | (simp; omega)) _ | refine Below.setCell ?_ (by first | omega | (simp; done) | (simp; omega)) _))⟩
  replace hb := hb (by omega)
  go_enter Tryz.func3, Tryz.ntmps3
  go_wp2_with fail
  refine (drawBookText_any a n c w hc (by omega) hb).mono ?_
  rintro e w1 ⟨⟨⟨st, l⟩, d, u⟩, v1, v2, v3, rfl, o, hsz, bt⟩
  obtain ⟨a1, c1, a2, c2, a3, c3, rfl, rfl, rfl⟩ := o.forms
  simp only at o ⊢
  have lb := hpw.below bt
  have hs := o.kr
  have hl : l.length ≤ 10 := hsz.1
  have hdu : d.length + u.length ≤ 41 := hsz.2.1
  clear o hb hpw hn hc hsz hbig
  obtain ⟨t, ht⟩ : ∃ t, bookB ⟨⟨st, l⟩, d, u⟩ = t := ⟨_, rfl⟩
  have KT := Lib.hid (show ∀ (w' : World), RdB w' a1 a2 a3 ⟨⟨st, l⟩, d, u⟩ → Pow w' → Calls Tryz.prog 6 #[.agg #[.int .i64 st, .slice a1 l.length c1, .slice a2 d.length c2, .slice a3 u.length c3]] w' (fun e w'' => e = .returned (.string t) ∧ Below w'.heap.size w' w'') from fun w' h hp => by
    have := bookText_any a1 a2 a3 c1 c2 c3 st l d u w' (by omega) (by omega) (by omega) h hp
    rw [ht] at this
    exact this)
  have KU := Lib.hid (show ∀ (w' : World), RdB w' a1 a2 a3 ⟨⟨st, l⟩, d, u⟩ → Calls Tryz.prog 7 #[.agg #[.int .i64 st, .slice a1 l.length c1, .slice a2 d.length c2, .slice a3 u.length c3]] w' (fun e w'' => e = .returned (.string t) ∧ Below w'.heap.size w' w'') from fun w' h => by
    have := sbookText_any a1 a2 a3 c1 c2 c3 st l d u w' (by omega) (by omega) (by omega) h
    rw [ht] at this
    exact this)
  have HT := Lib.hid ht
  clear ht
  go_upto_region 4 with fail
  obtain ⟨BB0, hY⟩ : ∃ Y, w1.heap.size = Y := ⟨_, rfl⟩
  obtain ⟨w2, hV⟩ : ∃ V, V = w1.alloc (.cells #[.int .i64 st, .slice a1 l.length c1, .slice a2 d.length c2, .slice a3 u.length c3] 28) := ⟨_, rfl⟩
  have c : Below w1.heap.size w1 w2 := by rw [hV]; exact (by repeat (first | with_reducible assumption | exact Below.refl _ _ | refine below_drewN ?_ _ | refine Below.drew ?_ | refine Below.alloc ?_ (by first | omega | (simp; done) | (simp; omega)) _ | refine Below.setCell ?_ (by first | omega | (simp; done) | (simp; omega)) _))
  have B0 : At w2 BB0 [.int .i64 st, .slice a1 l.length c1, .slice a2 d.length c2, .slice a3 u.length c3] := by rw [hV]; exact At.new _ _ _ hY.symm rfl
  rw [hY, ← hV]
  clear hV hY
  replace lb := lb.below c
  replace hs := hs.below c
  replace bt := bt.trans (c.mono bt.size)
  clear c
  obtain ⟨tB00, tB01, tB02, tB03, tB04, tB05⟩ := id B0.facts4
  go_wp2_with fail
  refine (KT.out _ hs lb.pow).mono ?_
  rintro e w3 ⟨rfl, c⟩
  clear tB00 tB01 tB02 tB03 tB04 tB05
  replace lb := lb.below c
  replace hs := hs.below c
  replace B0 := B0.below c
  replace bt := bt.trans (c.mono bt.size)
  clear c
  obtain ⟨tB00, tB01, tB02, tB03, tB04, tB05⟩ := id B0.facts4
  go_wp2_with fail
  refine (KU.out _ hs).mono ?_
  rintro e w4 ⟨rfl, c⟩
  clear tB00 tB01 tB02 tB03 tB04 tB05
  replace lb := lb.below c
  replace hs := hs.below c
  replace B0 := B0.below c
  replace bt := bt.trans (c.mono bt.size)
  clear c
  by_cases hz : t.size = 0
  · have he : t = ⟨#[]⟩ := size0_eq hz
    have hv := bookB_bad (b := ⟨⟨st, l⟩, d, u⟩) (by rw [HT.out]; exact hz)
    subst he
    obtain ⟨tB00, tB01, tB02, tB03, tB04, tB05⟩ := id B0.facts4
    go_wp2_with fail
    refine (bookValid_any a1 a2 a3 c1 c2 c3 st l d u _ (by omega) (by omega) (by omega) hs).mono ?_
    rintro e w5 ⟨rfl, c⟩
    clear tB00 tB01 tB02 tB03 tB04 tB05
    rw [hv]
    replace lb := lb.below c
    replace hs := hs.below c
    replace B0 := B0.below c
    replace bt := bt.trans (c.mono bt.size)
    clear c
    clear hv
    go_wp2_with fail
    refine (alive_any _ lb.pow).mono ?_
    rintro e w6 ⟨rfl, c⟩
    replace lb := lb.below c
    replace hs := hs.below c
    replace B0 := B0.below c
    replace bt := bt.trans (c.mono bt.size)
    clear c
    go_wp2_with fail
    go_ret
    exact ⟨rfl, bt⟩
  · have hne := toList_ne hz
    have hin : bkOk ⟨⟨st, l⟩, d, u⟩ = true := by
      cases hb : bkOk ⟨⟨st, l⟩, d, u⟩
      · have h2 := bookB_empty hb; rw [HT.out] at h2; rw [h2] at hz; exact absurd rfl hz
      · rfl
    have hle : t.size ≤ 20000 := by have := bookB_le ⟨⟨st, l⟩, d, u⟩; rw [HT.out] at this; exact this
    have hrd : rdBk t = ((⟨⟨st, l⟩, d, []⟩, t.size), true) := by have := rdBk_text hin; rw [HT.out] at this; exact this
    have KR := Lib.hid (show ∀ (w' : World), Lby w' → Calls Tryz.prog 10 #[.string t] w' (RkOut ((⟨⟨st, l⟩, d, []⟩, t.size), true) w') from fun w' h => by
      have := readBook_any t w' (by omega) h
      rw [hrd] at this
      exact this)
    clear hz hin hrd HT KT KU
    go_wp2_with fail
    refine (KR.out _ lb).mono ?_
    rintro e w7 ⟨x1v, x2v, x3v, rfl, oX, c⟩
    obtain ⟨x1, y1, x2, y2, x3, y3, rfl, rfl, rfl⟩ := oX.forms
    simp only [List.length_nil] at oX ⊢
    replace lb := lb.below c
    replace hs := hs.below c
    replace B0 := B0.below c
    replace bt := bt.trans (c.mono bt.size)
    clear c
    clear hne
    go_upto_region 10 with fail
    obtain ⟨BX0, hY⟩ : ∃ Y, w7.heap.size = Y := ⟨_, rfl⟩
    obtain ⟨w8, hV⟩ : ∃ V, V = w7.alloc (.cells #[.int .i64 st, .slice x1 l.length y1, .slice x2 d.length y2, .slice x3 0 y3] 28) := ⟨_, rfl⟩
    have c : Below w7.heap.size w7 w8 := by rw [hV]; exact (by repeat (first | with_reducible assumption | exact Below.refl _ _ | refine below_drewN ?_ _ | refine Below.drew ?_ | refine Below.alloc ?_ (by first | omega | (simp; done) | (simp; omega)) _ | refine Below.setCell ?_ (by first | omega | (simp; done) | (simp; omega)) _))
    have X0 : At w8 BX0 [.int .i64 st, .slice x1 l.length y1, .slice x2 d.length y2, .slice x3 0 y3] := by rw [hV]; exact At.new _ _ _ hY.symm rfl
    rw [hY, ← hV]
    clear hV hY
    replace lb := lb.below c
    replace hs := hs.below c
    replace B0 := B0.below c
    replace oX := oX.below c
    replace bt := bt.trans (c.mono bt.size)
    clear c
    have hlit : ∀ W, RdB W a1 a2 a3 ⟨⟨st, l⟩, d, u⟩ → RdB W a1 a2 none ⟨⟨st, l⟩, d, []⟩ := fun W h => ⟨h.l, h.d, (.inl rfl)⟩
    obtain ⟨tX00, tX01, tX02, tX03, tX04, tX05⟩ := id X0.facts4
    obtain ⟨tB00, tB01, tB02, tB03, tB04, tB05⟩ := id B0.facts4
    go_wp2_with fail
    refine (sameBook_any x1 x2 x3 a1 a2 none y1 y2 y3 c1 c2 0 st st l l d [] d [] _ (by omega) (by omega) (by simp) (by omega) (by omega) (by simp) oX.kr (hlit _ hs)).mono ?_
    rintro e w9 ⟨rfl, c⟩
    clear tX00 tX01 tX02 tX03 tX04 tX05 tB00 tB01 tB02 tB03 tB04 tB05
    rw [dec_yes rfl]
    replace lb := lb.below c
    replace hs := hs.below c
    replace B0 := B0.below c
    replace oX := oX.below c
    replace X0 := X0.below c
    replace bt := bt.trans (c.mono bt.size)
    clear c
    go_wp2_with fail
    go_ret
    exact ⟨rfl, bt⟩
end Go.Proofs.YtcilgpmeliegoaaGreatDoor
