/- The law FnBookLine, walked: questions change nothing (written by wip/bin/gen_vb15.py). -/
import Derived.Test.YthfoloefkfadlaaGreatDoorR4
import Derived.Test.YthfoloefkfadlaaGreatDoorT1
import Derived.Test.YthfoloefkfadlaaGreatDoorMC
set_option linter.unusedSimpArgs false
set_option linter.unusedVariables false
namespace Go.Proofs.YthfoloefkfadlaaGreatDoor
open Go Go.RowKit Go.Sort

set_option maxRecDepth 100000 in
theorem noBook_zero (a1 a2 a3:Option Addr) (c1 c2 c3:Nat) (w:World) :
 Calls Tryz.prog 13 #[.agg #[.int .i64 0,.slice a1 0 c1,.slice a2 0 c2,.slice a3 0 c3]] w fun e w'=>e=.returned (.bool true)∧Below w.heap.size w w':=by
 go_enter Tryz.func13,Tryz.ntmps13
 go_wp2_with fail
 refine (sameBook_any a1 a2 a3 none none none c1 c2 c3 0 0 0 0 0 [] [] [] [] [] [] _ (by simp) (by simp) (by simp) (by simp) (by simp) (by simp) ⟨.inl rfl,.inl rfl,.inl rfl⟩ ⟨.inl rfl,.inl rfl,.inl rfl⟩).mono ?_
 rintro e w1 ⟨rfl,c⟩
 rw [dec_yes rfl]
 go_wp2_with fail
 go_ret
 exact ⟨rfl,Below.trans (by exact qHb) (Below.mono c (by simp))⟩
set_option maxRecDepth 100000 in
set_option maxHeartbeats 4000000 in
theorem lawBookLine (a:Option Addr) (n c:Nat) (w:World) (hc:n≤c) (hn:n≤9223372036854775807) (hb:n≤1048576→Bytes w a n) (hpw:Lby w) :
 Calls Tryz.prog 6 #[.slice a n c] w fun e w'=>e=.returned (.bool true)∧Below w.heap.size w w':=by
 by_cases hbig:1048576<n
 · go_enter Tryz.func6,Tryz.ntmps6
   go_wp2_with fail
   go_ret
   exact ⟨rfl,qBl⟩
 replace hb:=hb (by omega)
 go_enter Tryz.func6,Tryz.ntmps6
 go_wp2_with fail
 refine (drawBookLine_any a n c w hc (by omega) hb).mono ?_
 rintro e w1 ⟨⟨⟨st,l⟩,d,u⟩,v1,v2,v3,t,rfl,o,hsz,hts,bt⟩
 obtain ⟨a1,c1,a2,c2,a3,c3,rfl,rfl,rfl⟩:=o.forms
 simp only at o ⊢
 have lb:=hpw.below bt
 have hs:=o.kr
 have hl:l.length≤10:=hsz.1
 have hdu:d.length+u.length≤41:=hsz.2.1
 clear o hb hpw hn hc hsz hbig
 obtain ⟨⟨⟨⟨rst,rl⟩,rd,ru⟩,rt⟩,hp⟩:∃ p,lineF ⟨⟨st,l⟩,d,u⟩ t=p:=⟨_,rfl⟩
 have hlr:rl.length≤9∧rd.length≤40∧ru.length≤40:=by have:=lineF_len ⟨⟨st,l⟩,d,u⟩ t;rw [hp] at this;exact this
 have KI:=Lib.hid (show ∀ (w':World),RdB w' a1 a2 a3 ⟨⟨st,l⟩,d,u⟩→Lby w'→Calls Tryz.prog 23 #[.agg #[.int .i64 st,.slice a1 l.length c1,.slice a2 d.length c2,.slice a3 u.length c3],.string t] w' (LnOut (⟨⟨rst,rl⟩,rd,ru⟩,rt) w') from fun w' h h2=>by
  have:=bookLine_any a1 a2 a3 c1 c2 c3 st l d u t w' (by omega) (by omega) (by omega) (by first|omega|decide) h h2
  rw [hp] at this
  exact this)
 have KS:=Lib.hid (show ∀ (w':World),RdB w' a1 a2 a3 ⟨⟨st,l⟩,d,u⟩→Calls Tryz.prog 21 #[.agg #[.int .i64 st,.slice a1 l.length c1,.slice a2 d.length c2,.slice a3 u.length c3],.string t] w' (LnOut (⟨⟨rst,rl⟩,rd,ru⟩,rt) w') from fun w' h=>by
  have:=sbookLine_any a1 a2 a3 c1 c2 c3 st l d u t w' (by omega) (by omega) (by omega) (by first|omega|decide) h
  rw [hp] at this
  exact this)
 have HP:=Lib.hid hp
 clear hp
 go_upto_region 4 with fail
 obtain ⟨BB0,hY⟩:∃ Y,w1.heap.size=Y:=⟨_,rfl⟩
 obtain ⟨w2,hV⟩:∃ V,V=w1.alloc (.cells #[.int .i64 st,.slice a1 l.length c1,.slice a2 d.length c2,.slice a3 u.length c3] 28):=⟨_,rfl⟩
 have c:Below w1.heap.size w1 w2:=by rw [hV];exact qBl
 have B0:At w2 BB0 [.int .i64 st,.slice a1 l.length c1,.slice a2 d.length c2,.slice a3 u.length c3]:=by rw [hV];exact At.new _ _ _ hY.symm rfl
 rw [hY,← hV]
 clear hV hY
 replace lb:=lb.below c
 replace hs:=hs.below c
 replace bt:=bt.trans (c.mono bt.size)
 clear c
 obtain ⟨tB00,tB01,tB02,tB03,tB04,tB05⟩:=id B0.facts4
 go_wp2_with fail
 refine (KI.out _ hs lb).mono ?_
 rintro e w3 ⟨v1T,v2T,v3T,rfl,oT,c⟩
 clear tB00 tB01 tB02 tB03 tB04 tB05
 obtain ⟨xT1,yT1,xT2,yT2,xT3,yT3,rfl,rfl,rfl⟩:=oT.forms
 simp only at oT ⊢
 replace lb:=lb.below c
 replace hs:=hs.below c
 replace B0:=B0.below c
 replace bt:=bt.trans (c.mono bt.size)
 clear c
 go_upto_region 5 with fail
 obtain ⟨BT0,hY⟩:∃ Y,w3.heap.size=Y:=⟨_,rfl⟩
 obtain ⟨w4,hV⟩:∃ V,V=w3.alloc (.cells #[.int .i64 rst,.slice xT1 rl.length yT1,.slice xT2 rd.length yT2,.slice xT3 ru.length yT3] 28):=⟨_,rfl⟩
 have c:Below w3.heap.size w3 w4:=by rw [hV];exact qBl
 have T0:At w4 BT0 [.int .i64 rst,.slice xT1 rl.length yT1,.slice xT2 rd.length yT2,.slice xT3 ru.length yT3]:=by rw [hV];exact At.new _ _ _ hY.symm rfl
 rw [hY,← hV]
 clear hV hY
 replace lb:=lb.below c
 replace hs:=hs.below c
 replace B0:=B0.below c
 replace oT:=oT.below c
 replace bt:=bt.trans (c.mono bt.size)
 clear c
 obtain ⟨tB00,tB01,tB02,tB03,tB04,tB05⟩:=id B0.facts4
 go_wp2_with fail
 refine (KS.out _ hs).mono ?_
 rintro e w5 ⟨v1U,v2U,v3U,rfl,oU,c⟩
 clear tB00 tB01 tB02 tB03 tB04 tB05
 obtain ⟨xU1,yU1,xU2,yU2,xU3,yU3,rfl,rfl,rfl⟩:=oU.forms
 simp only at oU ⊢
 replace lb:=lb.below c
 replace hs:=hs.below c
 replace B0:=B0.below c
 replace oT:=oT.below c
 replace T0:=T0.below c
 replace bt:=bt.trans (c.mono bt.size)
 clear c
 go_upto_region 6 with fail
 obtain ⟨BU0,hY⟩:∃ Y,w5.heap.size=Y:=⟨_,rfl⟩
 obtain ⟨w6,hV⟩:∃ V,V=w5.alloc (.cells #[.int .i64 rst,.slice xU1 rl.length yU1,.slice xU2 rd.length yU2,.slice xU3 ru.length yU3] 28):=⟨_,rfl⟩
 have c:Below w5.heap.size w5 w6:=by rw [hV];exact qBl
 have U0:At w6 BU0 [.int .i64 rst,.slice xU1 rl.length yU1,.slice xU2 rd.length yU2,.slice xU3 ru.length yU3]:=by rw [hV];exact At.new _ _ _ hY.symm rfl
 rw [hY,← hV]
 clear hV hY
 replace lb:=lb.below c
 replace hs:=hs.below c
 replace B0:=B0.below c
 replace oT:=oT.below c
 replace T0:=T0.below c
 replace oU:=oU.below c
 replace bt:=bt.trans (c.mono bt.size)
 clear c
 clear KI KS
 obtain ⟨tT00,tT01,tT02,tT03,tT04,tT05⟩:=id T0.facts4
 obtain ⟨tU00,tU01,tU02,tU03,tU04,tU05⟩:=id U0.facts4
 go_wp2_with fail
 refine (sameBook_any _ _ _ _ _ _ _ _ _ _ _ _ rst rst rl rl rd ru rd ru _ (by omega) (by omega) (by omega) (by omega) (by omega) (by omega) oT.kr oU.kr).mono ?_
 rintro e w7 ⟨rfl,c⟩
 clear tT00 tT01 tT02 tT03 tT04 tT05 tU00 tU01 tU02 tU03 tU04 tU05
 rw [dec_yes rfl]
 replace lb:=lb.below c
 replace hs:=hs.below c
 replace B0:=B0.below c
 replace oT:=oT.below c
 replace T0:=T0.below c
 replace oU:=oU.below c
 replace U0:=U0.below c
 replace bt:=bt.trans (c.mono bt.size)
 clear c
 clear oU U0
 cases hv:bkOk ⟨⟨st,l⟩,d,u⟩ with
 | false =>
   have hz:=lineF_bad hv t
   rw [HP.out] at hz
   simp only [Prod.mk.injEq,zeroBk,Bk.mk.injEq,Sv.mk.injEq] at hz
   clear HP oT
   obtain ⟨⟨⟨rfl,rfl⟩,rfl,rfl⟩,rfl⟩:=hz
   simp only [List.length_nil] at T0
   obtain ⟨tB00,tB01,tB02,tB03,tB04,tB05⟩:=id B0.facts4
   go_wp2_with fail
   refine (sbookValid_any a1 a2 a3 c1 c2 c3 st l d u _ (by omega) (by omega) (by omega) hs).mono ?_
   rintro e w8 ⟨rfl,c⟩
   clear tB00 tB01 tB02 tB03 tB04 tB05
   rw [hv]
   replace lb:=lb.below c
   replace hs:=hs.below c
   replace B0:=B0.below c
   replace T0:=T0.below c
   replace bt:=bt.trans (c.mono bt.size)
   clear c
   clear hv
   obtain ⟨tT00,tT01,tT02,tT03,tT04,tT05⟩:=id T0.facts4
   go_wp2_with fail
   refine (noBook_zero _ _ _ _ _ _ _).mono ?_
   rintro e w9 ⟨rfl,c⟩
   clear tT00 tT01 tT02 tT03 tT04 tT05
   replace lb:=lb.below c
   replace hs:=hs.below c
   replace B0:=B0.below c
   replace T0:=T0.below c
   replace bt:=bt.trans (c.mono bt.size)
   clear c
   go_wp2_with fail
   refine (alive_any _ lb.pow).mono ?_
   rintro e w10 ⟨rfl,c⟩
   replace lb:=lb.below c
   replace hs:=hs.below c
   replace B0:=B0.below c
   replace T0:=T0.below c
   replace bt:=bt.trans (c.mono bt.size)
   clear c
   go_wp2_with fail
   go_ret
   exact ⟨rfl,bt⟩
 | true =>
   have hL:=lineF_ok hv t
   rw [HP.out] at hL
   have hxo:=hL.ok
   have hse:=hL.same
   simp only at hxo hse
   clear HP hL
   have hsp:=lineF_space hv
   have KZ:=Lib.hid (show ∀ (w':World),RdB w' a1 a2 a3 ⟨⟨st,l⟩,d,u⟩→Lby w'→Calls Tryz.prog 23 #[.agg #[.int .i64 st,.slice a1 l.length c1,.slice a2 d.length c2,.slice a3 u.length c3],.string ⟨#[32]⟩] w' (LnOut (⟨⟨st,l⟩,d,u⟩,whatB) w') from fun w' h h2=>by
    have:=bookLine_any a1 a2 a3 c1 c2 c3 st l d u ⟨#[32]⟩ w' (by omega) (by omega) (by omega) (by first|omega|decide) h h2
    rw [hsp] at this
    exact this)
   clear hsp
   obtain ⟨tB00,tB01,tB02,tB03,tB04,tB05⟩:=id B0.facts4
   go_wp2_with fail
   refine (sbookValid_any a1 a2 a3 c1 c2 c3 st l d u _ (by omega) (by omega) (by omega) hs).mono ?_
   rintro e w11 ⟨rfl,c⟩
   clear tB00 tB01 tB02 tB03 tB04 tB05
   rw [hv]
   replace lb:=lb.below c
   replace hs:=hs.below c
   replace B0:=B0.below c
   replace oT:=oT.below c
   replace T0:=T0.below c
   replace bt:=bt.trans (c.mono bt.size)
   clear c
   clear hv
   obtain ⟨tB00,tB01,tB02,tB03,tB04,tB05⟩:=id B0.facts4
   go_wp2_with fail
   refine (KZ.out _ hs lb).mono ?_
   rintro e w12 ⟨v1Z,v2Z,v3Z,rfl,oZ,c⟩
   clear tB00 tB01 tB02 tB03 tB04 tB05
   obtain ⟨xZ1,yZ1,xZ2,yZ2,xZ3,yZ3,rfl,rfl,rfl⟩:=oZ.forms
   simp only at oZ ⊢
   replace lb:=lb.below c
   replace hs:=hs.below c
   replace B0:=B0.below c
   replace oT:=oT.below c
   replace T0:=T0.below c
   replace bt:=bt.trans (c.mono bt.size)
   clear c
   go_upto_region 11 with fail
   obtain ⟨BZ0,hY⟩:∃ Y,w12.heap.size=Y:=⟨_,rfl⟩
   obtain ⟨w13,hV⟩:∃ V,V=w12.alloc (.cells #[.int .i64 st,.slice xZ1 l.length yZ1,.slice xZ2 d.length yZ2,.slice xZ3 u.length yZ3] 28):=⟨_,rfl⟩
   have c:Below w12.heap.size w12 w13:=by rw [hV];exact qBl
   have Z0:At w13 BZ0 [.int .i64 st,.slice xZ1 l.length yZ1,.slice xZ2 d.length yZ2,.slice xZ3 u.length yZ3]:=by rw [hV];exact At.new _ _ _ hY.symm rfl
   rw [hY,← hV]
   clear hV hY
   replace lb:=lb.below c
   replace hs:=hs.below c
   replace B0:=B0.below c
   replace oT:=oT.below c
   replace T0:=T0.below c
   replace oZ:=oZ.below c
   replace bt:=bt.trans (c.mono bt.size)
   clear c
   obtain ⟨tT00,tT01,tT02,tT03,tT04,tT05⟩:=id T0.facts4
   go_wp2_with fail
   refine (bookValid_any xT1 xT2 xT3 yT1 yT2 yT3 rst rl rd ru _ (by omega) (by omega) (by omega) oT.kr).mono ?_
   rintro e w14 ⟨rfl,c⟩
   clear tT00 tT01 tT02 tT03 tT04 tT05
   rw [hxo]
   replace lb:=lb.below c
   replace hs:=hs.below c
   replace B0:=B0.below c
   replace oT:=oT.below c
   replace T0:=T0.below c
   replace oZ:=oZ.below c
   replace Z0:=Z0.below c
   replace bt:=bt.trans (c.mono bt.size)
   clear c
   clear hxo KZ
   by_cases hk:rt=okB
   · have g1:(rt.toList == [111,107])=true:=by rw [text_is];exact decide_eq_true hk
     have gw:whatB=⟨#[119,104,97,116]⟩:=rfl
     clear hse hk
     rw [gw]
     clear gw
     obtain ⟨tZ00,tZ01,tZ02,tZ03,tZ04,tZ05⟩:=id Z0.facts4
     obtain ⟨tB00,tB01,tB02,tB03,tB04,tB05⟩:=id B0.facts4
     go_wp2_with fail
     refine (sameBook_any _ _ _ _ _ _ _ _ _ _ _ _ st st l l d u d u _ (by omega) (by omega) (by omega) (by omega) (by omega) (by omega) oZ.kr hs).mono ?_
     rintro e w15 ⟨rfl,c⟩
     clear tZ00 tZ01 tZ02 tZ03 tZ04 tZ05 tB00 tB01 tB02 tB03 tB04 tB05
     rw [dec_yes rfl]
     replace lb:=lb.below c
     replace hs:=hs.below c
     replace B0:=B0.below c
     replace oT:=oT.below c
     replace T0:=T0.below c
     replace oZ:=oZ.below c
     replace Z0:=Z0.below c
     replace bt:=bt.trans (c.mono bt.size)
     clear c
     go_wp2_with fail
     go_ret
     exact ⟨rfl,bt⟩
   · have g1:(rt.toList == [111,107])=false:=by rw [text_is];exact decide_eq_false hk
     have gw:whatB=⟨#[119,104,97,116]⟩:=rfl
     have hx:=hse.resolve_left hk
     simp only [Bk.mk.injEq,Sv.mk.injEq] at hx
     obtain ⟨⟨rfl,rfl⟩,rfl,rfl⟩:=hx
     clear hse hk
     rw [gw]
     clear gw
     obtain ⟨tT00,tT01,tT02,tT03,tT04,tT05⟩:=id T0.facts4
     obtain ⟨tB00,tB01,tB02,tB03,tB04,tB05⟩:=id B0.facts4
     go_wp2_with fail
     refine (sameBook_any _ _ _ _ _ _ _ _ _ _ _ _ rst rst rl rl rd ru rd ru _ (by omega) (by omega) (by omega) (by omega) (by omega) (by omega) oT.kr hs).mono ?_
     rintro e w16 ⟨rfl,c⟩
     clear tT00 tT01 tT02 tT03 tT04 tT05 tB00 tB01 tB02 tB03 tB04 tB05
     rw [dec_yes rfl]
     replace lb:=lb.below c
     replace hs:=hs.below c
     replace B0:=B0.below c
     replace oT:=oT.below c
     replace T0:=T0.below c
     replace oZ:=oZ.below c
     replace Z0:=Z0.below c
     replace bt:=bt.trans (c.mono bt.size)
     clear c
     obtain ⟨tZ00,tZ01,tZ02,tZ03,tZ04,tZ05⟩:=id Z0.facts4
     obtain ⟨tB00,tB01,tB02,tB03,tB04,tB05⟩:=id B0.facts4
     go_wp2_with fail
     refine (sameBook_any _ _ _ _ _ _ _ _ _ _ _ _ rst rst rl rl rd ru rd ru _ (by omega) (by omega) (by omega) (by omega) (by omega) (by omega) oZ.kr hs).mono ?_
     rintro e w17 ⟨rfl,c⟩
     clear tZ00 tZ01 tZ02 tZ03 tZ04 tZ05 tB00 tB01 tB02 tB03 tB04 tB05
     rw [dec_yes rfl]
     replace lb:=lb.below c
     replace hs:=hs.below c
     replace B0:=B0.below c
     replace oT:=oT.below c
     replace T0:=T0.below c
     replace oZ:=oZ.below c
     replace Z0:=Z0.below c
     replace bt:=bt.trans (c.mono bt.size)
     clear c
     go_wp2_with fail
     go_ret
     exact ⟨rfl,bt⟩
end Go.Proofs.YthfoloefkfadlaaGreatDoor
