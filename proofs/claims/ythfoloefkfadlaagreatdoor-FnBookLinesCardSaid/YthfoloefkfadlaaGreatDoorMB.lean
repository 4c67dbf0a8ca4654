/- Walks: spec.Adjust in one, spec.TreesMany. -/
import Derived.Test.YthfoloefkfadlaaGreatDoorM5
import Derived.Test.YthfoloefkfadlaaGreatDoorMA
import Derived.Test.YthfoloefkfadlaaGreatDoorK9
import Derived.Test.YthfoloefkfadlaaGreatDoorT2
set_option linter.unusedSimpArgs false
set_option linter.unusedVariables false
set_option maxRecDepth 100000
namespace Go.Proofs.YthfoloefkfadlaaGreatDoor
open Go Go.RowKit Go.Sort
theorem zarp (a:Option Addr) (c:Nat) (st:Int) (l:List Lg) (w:World) (hv:svOk ⟨st,l⟩=true) (hs:Legs w a l):Calls Tryz.prog 108 #[.agg #[.int .i64 st,.slice a l.length c]] w (FixOut ⟨st,l⟩ w):=by
 by_cases hp:partsC ⟨st,l⟩=1
 · exact zaq4 a c st l w hv hp hs
 · exact zasx a c st l w hv hp hs
theorem zal2 (a:Option Addr) (c:Nat) (st:Int) (l:List Lg) (w:World) (hv:svOk ⟨st,l⟩=true) (hs:Legs w a l):Calls Tryz.prog 111 #[.agg #[.int .i64 st,.slice a l.length c]] w fun e w'=>e=.returned (.int .i64 (treesF ⟨st,l⟩))∧Below w.heap.size w w':=by
 obtain ⟨v1,v2,v3⟩:=st_in hv;simp only at v1 v2 v3
 have i1:=fun w h=>zaaa a c st l w qO h
 rw [hv] at i1
 have i2:=fun w h=>zaj7 a c st l w hv h
 have hM:=zagn hv;simp only at hM
 have HR:Hid (treesF ⟨st,l⟩=detL (linkM l (st.toNat - 1))):=by show _=_;unfold treesF;rw [if_pos hv]
 obtain ⟨M,hMe⟩:=qN (linkM l (st.toNat - 1));rw [hMe] at i2 hM HR
 have i3:=fun a c w h=>zaje a c M w hM h
 clear hMe hv
 go_enter Tryz.func111,Tryz.ntmps111
 go_wp2_with fail;refine (i1 _ (hs.below qBl)).mono ?_;rintro e w1 ⟨rfl,b1⟩;obtain ⟨X,hX⟩:=qN (w.heap.size);have A1:At w1 X [.int .i64 st,.slice a l.length c]:=(At.new w #[.int .i64 st,.slice a l.length c] 25 hX.symm rfl).below b1;have hb:Below w.heap.size w w1:=((Below.refl _ _).alloc (Nat.le_refl _) _).trans (b1.mono qP);rw [hX];clear b1 i1;obtain ⟨y,y0,y1,-⟩:=id A1.facts2;go_wp2_with fail;refine (i2 _ (hs.below hb)).mono ?_;rintro e w2 ⟨v,hds,rfl,o2,b2⟩;obtain ⟨av,cv,rfl⟩:=o2.sl;go_wp2_with fail;refine (i3 _ _ _ o2.rd).mono ?_;rintro e w3 ⟨rfl,b3⟩;go_wp2_with fail;go_ret
 exact ⟨by rw [HR.out];rfl,hb.trans ((b2.trans (b3.mono b2.size)).mono hb.size)⟩
set_option maxHeartbeats 2000000
theorem zath {line:ByteArray} {q:ByteArray} (h:cutB 32 line=[⟨#[119,104,101,114,101]⟩,q]):cutL 32 line.data.toList=[wordW,q.data.toList]:=by
 have e:=congrArg (List.map fun s:ByteArray=>s.data.toList) h
 unfold cutB at e
 rw [List.map_map,show ((fun s:ByteArray=>s.data.toList) ∘ toB)=(id:List UInt8→List UInt8) from funext fun x=>by simp [toB],List.map_id] at e
 exact e
theorem zau0 {line:ByteArray} {n:Int} (h:whereF line.data.toList=some n):cutB 32 line=[⟨#[119,104,101,114,101]⟩,itoaB n]∧rdL (itoaB n).data.toList=n:=by
 obtain ⟨h1,h2⟩:=zar1 h;unfold cutB;rw [h1]
 exact ⟨rfl,by simpa [itoaB] using h2⟩
theorem zau1 {line q:ByteArray} (h:whereF line.data.toList=none) (h1:cutB 32 line=[⟨#[119,104,101,114,101]⟩,q]):rdL q.data.toList<0∨9998<rdL q.data.toList:=zaxl h (zath h1)
theorem zau2 (a1 a2 a3:Option Addr) (c1 c2 c3:Nat) (st:Int) (l:List Lg) (d u:List Dd) (line:ByteArray) (w:World) (hok:bkOk ⟨⟨st,l⟩,d,u⟩=true) (hl:l.length≤1048576) (hd:d.length≤1048576) (hu:u.length≤1048576) (hsz:line.size≤1048576) (hs:RdB w a1 a2 a3 ⟨⟨st,l⟩,d,u⟩) :
 Calls Tryz.prog 60 #[.agg #[.int .i64 st,.slice a1 l.length c1,.slice a2 d.length c2,.slice a3 u.length c3],.string line] w fun e w'=>e=.returned (.string (askF (bkNow ⟨⟨st,l⟩,d,u⟩) line))∧Below w.heap.size w w':=by
 have iN:=fun w h=>zad3 a1 a2 a3 c1 c2 c3 st l d u w hl hd hu h
 have hv:=zaf9 hok;obtain ⟨⟨nst,nl⟩,hsv⟩:=qN (bkNow ⟨⟨st,l⟩,d,u⟩);rw [hsv] at iN hv ⊢;unfold SvRet at iN;simp only at iN;obtain ⟨v1,v2,v3⟩:=st_in hv;simp only at v1 v2 v3;have HV:=Lib.hid hv
 have IA:=Lib.hid (fun a c w h=>zarp a c nst nl w hv h)
 have IC:=Lib.hid (fun w=>zaeq line 32 w hsz)
 clear hsv hok hv
 go_enter Tryz.func60,Tryz.ntmps60
 go_wp2_with fail;refine (iN _ (hs.below qBl)).mono ?_;rintro e w1 ⟨v,rfl,oL,b1⟩;obtain ⟨av,cv,rfl⟩:=oL.sl;have hL:=oL.kr;have hb1:Below w.heap.size w w1:=Below.trans qBl (b1.mono qP);clear b1 oL iN hs;go_upto_region 2 with fail;obtain ⟨Y,hY⟩:=qN (w1.heap.size);have Y1:At (w1.alloc (.cells #[.int .i64 nst,.slice av nl.length cv] 25)) Y [.int .i64 nst,.slice av nl.length cv]:=At.new _ _ _ hY.symm rfl;have hL2:=hL.below (w':=w1.alloc (.cells #[.int .i64 nst,.slice av nl.length cv] 25)) qBl;have hb2:=hb1.alloc hb1.size (.cells #[.int .i64 nst,.slice av nl.length cv] 25);rw [hY];generalize w1.alloc (.cells #[.int .i64 nst,.slice av nl.length cv] 25)=w2 at *;clear hb1 hL hY;obtain ⟨y,y0,y1,-⟩:=id Y1.facts2;have iA:=IA.out;unfold FixOut at iA;go_wp2_with fail;refine (iA _ _ _ hL2).mono ?_;rintro e w3 ⟨dn,ns,na,nc,rfl,oN,hlk,b3⟩;have Y3:=Y1.below b3;have hL3:=hL2.below b3;have hb3:=hb2.trans (b3.mono hb2.size);clear Y1 hL2 hb2 b3 y y0 y1 iA IA;go_upto_region 3 with fail;obtain ⟨F,hF⟩:=qN (w3.heap.size)
 have hYF:Y<F:=by have:=Y3.lt;omega
 have F1:At (w3.alloc (.cells #[.int .i64 dn,.slice na ns.length nc] 129)) F [.int .i64 dn,.slice na ns.length nc]:=At.new _ _ _ hF.symm rfl;have Y4:=Y3.alloc (.cells #[.int .i64 dn,.slice na ns.length nc] 129);have oN4:=oN.alloc (.cells #[.int .i64 dn,.slice na ns.length nc] 129);have hL4:=hL3.below (w':=w3.alloc (.cells #[.int .i64 dn,.slice na ns.length nc] 129)) qBl;have hb4:=hb3.alloc hb3.size (.cells #[.int .i64 dn,.slice na ns.length nc] 129);rw [hF];generalize w3.alloc (.cells #[.int .i64 dn,.slice na ns.length nc] 129)=w4 at *;clear hb3 hL3 hF Y3 oN;have iC:=IC.out;go_wp2_with fail;refine (iC _).mono ?_;rintro e w5 ⟨wa,wc,rfl,oT,b5⟩;have Y5:=Y4.below b5;have F5:=F1.below b5;have oN5:=oN4.below b5;have hL5:=hL4.below b5;have hb5:=hb4.trans (b5.mono hb4.size);clear Y4 F1 oN4 hL4 hb4 b5 iC IC;obtain ⟨y,y0,y1,-⟩:=id Y5.facts2;obtain ⟨f,f0,f1,-⟩:=id F5.facts2
 by_cases q1:line=nowT
 · have HA:Hid (askF ⟨nst,nl⟩ line=surveyB ⟨nst,nl⟩):=by show _=_;unfold askF;rw [if_pos q1]
   have i1:=fun w h=>zalc av cv nst nl w qO h
   have g1:(line.toList == [110,111,119])=true:=by rw [zaax];exact decide_eq_true q1
   clear q1;go_wp2_with fail;refine (i1 _ hL5).mono ?_;rintro e w6 ⟨rfl,b6⟩;go_wp2_with fail;go_ret
   exact ⟨by rw [HA.out];rfl,hb5.trans (b6.mono hb5.size)⟩
 have g1:(line.toList == [110,111,119])=false:=by rw [zaax];exact decide_eq_false q1
 by_cases q2:line=loopsT
 · have HA:Hid (askF ⟨nst,nl⟩ line=itoaB (loopsF ⟨nst,nl⟩)):=by show _=_;unfold askF;rw [if_neg q1,if_pos q2]
   have hbd:=zaik HV.out
   have i1:=fun w h=>zal1 av cv nst nl w HV.out h
   obtain ⟨x,hx⟩:=qN (loopsF ⟨nst,nl⟩);rw [hx] at HA hbd i1
   have I2:=Lib.hid (fun w=>zabd x qO qO w)
   have g2:(line.toList == [108,111,111,112,115])=true:=by rw [zaax];exact decide_eq_true q2
   clear q1 q2 hx;go_wp2_with fail;refine (i1 _ hL5).mono ?_;rintro e w6 ⟨rfl,b6⟩;have i2:=I2.out;go_wp2_with fail;refine (i2 _).mono ?_;rintro e w7 ⟨rfl,b7⟩;go_wp2_with fail;go_ret
   exact ⟨by rw [HA.out];rfl,hb5.trans ((b6.trans (b7.mono b6.size)).mono hb5.size)⟩
 have g2:(line.toList == [108,111,111,112,115])=false:=by rw [zaax];exact decide_eq_false q2
 by_cases q3:line=treesT
 · have HA:Hid (askF ⟨nst,nl⟩ line=itoaB (treesF ⟨nst,nl⟩)):=by show _=_;unfold askF;rw [if_neg q1,if_neg q2,if_pos q3]
   have hbd:=zaei HV.out
   have i1:=fun w h=>zal2 av cv nst nl w HV.out h
   obtain ⟨x,hx⟩:=qN (treesF ⟨nst,nl⟩);rw [hx] at HA hbd i1
   have I2:=Lib.hid (fun w=>zabd x qO qO w)
   have g3:(line.toList == [116,114,101,101,115])=true:=by rw [zaax];exact decide_eq_true q3
   clear q1 q2 q3 hx hlk;go_wp2_with fail;refine (i1 _ hL5).mono ?_;rintro e w6 ⟨rfl,b6⟩;have i2:=I2.out;go_wp2_with fail;refine (i2 _).mono ?_;rintro e w7 ⟨rfl,b7⟩;go_wp2_with fail;go_ret
   exact ⟨by rw [HA.out];rfl,hb5.trans ((b6.trans (b7.mono b6.size)).mono hb5.size)⟩
 have g3:(line.toList == [116,114,101,101,115])=false:=by rw [zaax];exact decide_eq_false q3
 by_cases q4:line=closesT
 · have HA:Hid (askF ⟨nst,nl⟩ line=if closesF ⟨nst,nl⟩ then yesB else noB):=by show _=_;unfold askF;rw [if_neg q1,if_neg q2,if_neg q3,if_pos q4]
   have i1:=fun w h=>zarq av cv nst nl w HV.out h
   obtain ⟨x,hx⟩:=qN (closesF ⟨nst,nl⟩);rw [hx] at HA i1
   have g4:(line.toList == [99,108,111,115,101,115])=true:=by rw [zaax];exact decide_eq_true q4
   clear q1 q2 q3 q4 hx
   cases x
   · go_wp2_with fail
     refine (i1 _ hL5).mono ?_;rintro e w6 ⟨rfl,b6⟩;go_wp2_with fail;go_ret
     exact ⟨by rw [HA.out];rfl,hb5.trans (b6.mono hb5.size)⟩
   · go_wp2_with fail
     refine (i1 _ hL5).mono ?_;rintro e w6 ⟨rfl,b6⟩;go_wp2_with fail;go_ret
     exact ⟨by rw [HA.out];rfl,hb5.trans (b6.mono hb5.size)⟩
 have g4:(line.toList == [99,108,111,115,101,115])=false:=by rw [zaax];exact decide_eq_false q4
 have hA:askF ⟨nst,nl⟩ line=(match whereF line.data.toList with|some n=>whereB ⟨nst,nl⟩ n|none=>whatB):=by
  unfold askF;rw [if_neg q1,if_neg q2,if_neg q3,if_neg q4];cases whereF line.data.toList <;> rfl
 clear q1 q2 q3 q4;have hz:=oT.kr;have hpos:=zag5 32 line
 cases hwf:whereF line.data.toList with
 | none =>
   rw [hwf] at hA
   rw [show (match (none:Option Int) with|some n=>whereB ⟨nst,nl⟩ n|none=>whatB)=whatB from rfl] at hA
   have HA:=Lib.hid hA
   have HNO:=Lib.hid (fun q h=>zau1 (line:=line) (q:=q) hwf h)
   clear hA hwf hlk oN5;obtain ⟨ws,hws⟩:=qN (cutB 32 line);rw [hws] at oT hz hpos HNO ⊢;clear hws
   by_cases hw0:nth ws 0=⟨#[119,104,101,114,101]⟩
   · have g5:((nth ws 0).toList == [119,104,101,114,101])=true:=by rw [zaax];exact decide_eq_true hw0
     by_cases h2:ws.length=2
     · obtain ⟨x0,q,rfl⟩:∃ x q,ws=[x,q]:=by
        match ws,h2 with
        | [x,q],_=>exact ⟨x,q,rfl⟩
       obtain ⟨P,po,rfl,hPw,s0⟩:=Strs.at hz (k:=0) qP;obtain ⟨P',po',e',-,s1⟩:=Strs.at hz (k:=1) qP
       cases e'
       have e0:nth [x0,q] 0=x0:=rfl;have e1:nth [x0,q] 1=q:=rfl;rw [e0] at s0 g5 hw0;rw [Nat.add_zero] at s0;rw [e1] at s1;subst hw0;have hno:=HNO.out q rfl;obtain ⟨r,hr⟩:=qN (rdL q.data.toList)
       have R1:=Lib.hid (fun w=>zab9 q w)
       rw [hr] at hno R1
       have R2:=Lib.hid (fun w=>zaac r 0 (nst - 1) w)
       have R3:=Lib.hid (fun w=>zaac r 0 9998 w)
       have hi1:inB r 0 (nst - 1)=false:=by simp [inB];omega
       have hi2:inB r 0 9998=false:=by simp [inB];omega
       rw [hi1] at R2;rw [hi2] at R3
       have hwn:IntKind.i64.wrap (nst - 1)=nst - 1:=by rw [IntKind.wrap_i64];omega
       simp only [List.length_cons,List.length_nil,Nat.zero_add];clear hr hno hi1 hi2 HNO hpos e0 e1 h2
       as_aux_lemma =>
        go_upto_region 14 with fail;have k1:=cell_regrown s0;have k3:=cell_regrown y0;have k2:=cell_regrown s1
        have j1:=zaad (w:=w5) (fun w=>(R1.out w).mono fun e w' h=>⟨h.1,h.2▸Below.refl _ _⟩)
        have j2:=zaad (w:=w5) (fun w=>(R2.out w).mono fun e w' h=>⟨h.1,h.2▸Below.refl _ _⟩)
        refine wp_region_quiet_below (by kernel_rfl) (by kernel_rfl) ?_
        repeat (first|go_big_quiet_step (first|with_reducible exact j1 _ _|with_reducible exact j2 _ _)|quiet_step (first|with_reducible exact j1 _ _|with_reducible exact j2 _ _))
        refine wpQuiet_nil ?_;intro _ hw';obtain ⟨⟨dq,osq⟩,hw''⟩:=hw';have bb0:Below w5.heap.size w5 (grow (redrawn w5 dq) osq):=below_regrown w5 dq osq;subst hw'';generalize grow (redrawn w5 dq) osq=wx at bb0 ⊢;replace s0:=(bb0.cell (p:=⟨P,po,none⟩) hPw).trans s0;replace s1:=(bb0.cell (p:=⟨P,po+1,none⟩) hPw).trans s1;replace hPw:=Nat.lt_of_lt_of_le hPw bb0.size;replace Y5:=Y5.below bb0;replace hb5:=hb5.trans (bb0.mono hb5.size);clear k1 k3 k2 j1 j2 y y0 y1 f f0 f1 hz oT;obtain ⟨y,y0,y1,-⟩:=id Y5.facts2
        go_wp2_with (first|(go_at_call 106;(refine (R1.out _).mono ?_);rintro e wy ⟨rfl,rfl⟩)|(go_at_call 85;(refine (R3.out _).mono ?_);rintro e wy ⟨rfl,rfl⟩))
        go_ret
        exact ⟨by rw [HA.out];rfl,hb5⟩
     · obtain ⟨P,po,rfl,hPw,s0⟩:=Strs.at hz (k:=0) hpos
       obtain ⟨t0,ht0⟩:=qN (nth ws 0);rw [ht0,Nat.add_zero] at s0;rw [ht0] at g5
       have hn2:((ws.length:Int) == 2)=false:=by simp;omega
       have hn2':¬ (ws.length:Int)=2:=qO;have hps:(0:Int)<(ws.length:Int):=qO;clear hw0 ht0 h2 HNO
       as_aux_lemma =>
        go_upto_region 14 with fail;have k1:=cell_regrown s0;have k3:=cell_regrown y0;refine wp_region_quiet_below (by kernel_rfl) (by kernel_rfl) ?_
        repeat (first|go_big_quiet_step (fail)|quiet_step (fail))
        refine wpQuiet_nil ?_;intro _ hw';obtain ⟨⟨dq,osq⟩,hw''⟩:=hw';have bb0:Below w5.heap.size w5 (grow (redrawn w5 dq) osq):=below_regrown w5 dq osq;subst hw'';generalize grow (redrawn w5 dq) osq=wx at bb0 ⊢;replace s0:=(bb0.cell (p:=⟨P,po,none⟩) hPw).trans s0;replace hPw:=Nat.lt_of_lt_of_le hPw bb0.size;replace Y5:=Y5.below bb0;replace hb5:=hb5.trans (bb0.mono hb5.size);clear k1 k3 y y0 y1 f f0 f1 hz oT;obtain ⟨y,y0,y1,-⟩:=id Y5.facts2;go_wp2_with fail;go_ret
        exact ⟨by rw [HA.out];rfl,hb5⟩
   · have g5:((nth ws 0).toList == [119,104,101,114,101])=false:=by rw [zaax];exact decide_eq_false hw0
     obtain ⟨P,po,rfl,hPw,s0⟩:=Strs.at hz (k:=0) hpos;obtain ⟨t0,ht0⟩:=qN (nth ws 0);rw [ht0,Nat.add_zero] at s0;rw [ht0] at g5;have hps:(0:Int)<(ws.length:Int):=qO;clear hw0 ht0 HNO
     as_aux_lemma =>
      go_upto_region 14 with fail;have k1:=cell_regrown s0;have k3:=cell_regrown y0;refine wp_region_quiet_below (by kernel_rfl) (by kernel_rfl) ?_
      repeat (first|go_big_quiet_step (fail)|quiet_step (fail))
      refine wpQuiet_nil ?_;intro _ hw';obtain ⟨⟨dq,osq⟩,hw''⟩:=hw';have bb0:Below w5.heap.size w5 (grow (redrawn w5 dq) osq):=below_regrown w5 dq osq;subst hw'';generalize grow (redrawn w5 dq) osq=wx at bb0 ⊢;replace s0:=(bb0.cell (p:=⟨P,po,none⟩) hPw).trans s0;replace hPw:=Nat.lt_of_lt_of_le hPw bb0.size;replace Y5:=Y5.below bb0;replace hb5:=hb5.trans (bb0.mono hb5.size);clear k1 k3 y y0 y1 f f0 f1 hz oT;obtain ⟨y,y0,y1,-⟩:=id Y5.facts2;go_wp2_with fail;go_ret
      exact ⟨by rw [HA.out];rfl,hb5⟩
 | some n =>
   rw [hwf] at hA
   rw [show (match (some n:Option Int) with|some n=>whereB ⟨nst,nl⟩ n|none=>whatB)=whereB ⟨nst,nl⟩ n from rfl] at hA
   obtain ⟨hws,hrd⟩:=zau0 hwf;obtain ⟨-,n0,n9,-⟩:=zagf hwf;rw [hws] at oT hz hpos ⊢;obtain ⟨P,po,rfl,hPw,s0⟩:=Strs.at hz (k:=0) qP;obtain ⟨P',po',e',-,s1⟩:=Strs.at hz (k:=1) qP
   cases e'
   rw [show nth [(⟨#[119,104,101,114,101]⟩:ByteArray),itoaB n] 0=⟨#[119,104,101,114,101]⟩ from rfl,Nat.add_zero] at s0;rw [show nth [(⟨#[119,104,101,114,101]⟩:ByteArray),itoaB n] 1=itoaB n from rfl] at s1
   have R1:=Lib.hid (fun w=>zab9 (itoaB n) w)
   rw [hrd] at R1
   have hi2:inB n 0 9998=true:=by simp [inB];omega
   have R3:=Lib.hid (fun w=>zaac n 0 9998 w)
   rw [hi2] at R3
   have hwn:IntKind.i64.wrap (nst - 1)=nst - 1:=by rw [IntKind.wrap_i64];omega
   have R2:=Lib.hid (fun w=>zaac n 0 (nst - 1) w)
   simp only [List.length_cons,List.length_nil,Nat.zero_add];clear hws hrd hwf hi2 hpos
   by_cases hin:n<nst
   · have hi1:inB n 0 (nst - 1)=true:=by simp [inB];omega
     rw [hi1] at R2;clear hi1
     cases hlv:linked ⟨nst,nl⟩
     · have hwB:whereB ⟨nst,nl⟩ n=unkB:=by unfold whereB;rw [hlv,if_neg qP]
       rw [hwB] at hA;have HA:=Lib.hid hA;clear hA hwB hlk oN5 hlv
       as_aux_lemma =>
        go_upto_region 14 with fail;have k1:=cell_regrown s0;have k3:=cell_regrown y0;have k2:=cell_regrown s1
        have j1:=zaad (w:=w5) (fun w=>(R1.out w).mono fun e w' h=>⟨h.1,h.2▸Below.refl _ _⟩)
        have j2:=zaad (w:=w5) (fun w=>(R2.out w).mono fun e w' h=>⟨h.1,h.2▸Below.refl _ _⟩)
        refine wp_region_quiet_below (by kernel_rfl) (by kernel_rfl) ?_
        repeat (first|go_big_quiet_step (first|with_reducible exact j1 _ _|with_reducible exact j2 _ _)|quiet_step (first|with_reducible exact j1 _ _|with_reducible exact j2 _ _))
        refine wpQuiet_nil ?_;intro _ hw';obtain ⟨⟨dq,osq⟩,hw''⟩:=hw';have bb0:Below w5.heap.size w5 (grow (redrawn w5 dq) osq):=below_regrown w5 dq osq;subst hw'';generalize grow (redrawn w5 dq) osq=wx at bb0 ⊢;replace s0:=(bb0.cell (p:=⟨P,po,none⟩) hPw).trans s0;replace s1:=(bb0.cell (p:=⟨P,po+1,none⟩) hPw).trans s1;replace hPw:=Nat.lt_of_lt_of_le hPw bb0.size;replace Y5:=Y5.below bb0;replace hb5:=hb5.trans (bb0.mono hb5.size);clear k1 k3 k2 j1 j2 y y0 y1 f f0 f1 hz oT;obtain ⟨y,y0,y1,-⟩:=id Y5.facts2
        go_wp2_with (first|(go_at_call 106;(refine (R1.out _).mono ?_);rintro e wy ⟨rfl,rfl⟩)|(go_at_call 85;(refine (R3.out _).mono ?_);rintro e wy ⟨rfl,rfl⟩))
        go_ret
        exact ⟨by rw [HA.out];rfl,hb5⟩
     · have hwB:whereB ⟨nst,nl⟩ n=placeB ⟨nst,nl⟩ n:=by unfold whereB;rw [if_pos ⟨hlv,hin⟩]
       rw [hwB] at hA;obtain ⟨rfl,rfl⟩:=hlk hlv;have hlen:=zaij (s:=⟨nst,nl⟩) v1;simp only at hlen;obtain ⟨k,rfl⟩:∃ k:Nat,n=(k:Int):=⟨n.toNat,by omega⟩;have htb:=zaei HV.out
       have hpb:placeB ⟨nst,nl⟩ (k:Int)=wayB (nth (fixNums ⟨nst,nl⟩) k).e (nth (fixNums ⟨nst,nl⟩) k).n (nth (fixNums ⟨nst,nl⟩) k).u ++ ⟨#[47]⟩ ++ itoaB (treesF ⟨nst,nl⟩):=by unfold placeB;simp
       have hsm:=zamz HV.out (k:=k) qO;rw [hpb] at hA;have hkl:k<(fixNums ⟨nst,nl⟩).length:=qO;obtain ⟨g,rfl,-,-,hgw,hgc,-⟩:=OwnW.form oN5 qO;obtain ⟨x1,x2,x3⟩:=hgc k hkl;obtain ⟨e1,he1⟩:=qN ((nth (fixNums ⟨nst,nl⟩) k).e);obtain ⟨e2,he2⟩:=qN ((nth (fixNums ⟨nst,nl⟩) k).n);obtain ⟨e3,he3⟩:=qN ((nth (fixNums ⟨nst,nl⟩) k).u);obtain ⟨dd,hdd⟩:=qN (treesF ⟨nst,nl⟩);obtain ⟨N,hN⟩:=qN ((fixNums ⟨nst,nl⟩).length);rw [he1,he2,he3] at hA hsm;rw [he1] at x1;rw [he2] at x2;rw [he3] at x3;rw [hdd] at hA htb f0 F5 ⊢;rw [hN] at hkl F5 f1 ⊢;have HA:=Lib.hid hA;have hki:(k:Int)<(N:Int):=qO;clear hA hwB hlk oN5 hlv hgc he1 he2 he3 hdd hN hlen hpb
       as_aux_lemma =>
        go_upto_region 14 with fail;have k1:=cell_regrown s0;have k3:=cell_regrown y0;have k2:=cell_regrown s1
        have j1:=zaad (w:=w5) (fun w=>(R1.out w).mono fun e w' h=>⟨h.1,h.2▸Below.refl _ _⟩)
        have j2:=zaad (w:=w5) (fun w=>(R2.out w).mono fun e w' h=>⟨h.1,h.2▸Below.refl _ _⟩)
        refine wp_region_quiet_below (by kernel_rfl) (by kernel_rfl) ?_
        repeat (first|go_big_quiet_step (first|with_reducible exact j1 _ _|with_reducible exact j2 _ _)|quiet_step (first|with_reducible exact j1 _ _|with_reducible exact j2 _ _))
        refine wpQuiet_nil ?_;intro _ hw';obtain ⟨⟨dq,osq⟩,hw''⟩:=hw';have bb0:Below w5.heap.size w5 (grow (redrawn w5 dq) osq):=below_regrown w5 dq osq;subst hw'';generalize grow (redrawn w5 dq) osq=wx at bb0 ⊢;replace s0:=(bb0.cell (p:=⟨P,po,none⟩) hPw).trans s0;replace s1:=(bb0.cell (p:=⟨P,po+1,none⟩) hPw).trans s1;replace hPw:=Nat.lt_of_lt_of_le hPw bb0.size;replace Y5:=Y5.below bb0;replace hb5:=hb5.trans (bb0.mono hb5.size);clear k1 k3 k2 j1 j2 y y0 y1 f f0 f1 hz oT;replace x1:=(bb0.cell (p:=⟨g,k*3,none⟩) hgw).trans x1;replace x2:=(bb0.cell (p:=⟨g,k*3+1,none⟩) hgw).trans x2;replace x3:=(bb0.cell (p:=⟨g,k*3+2,none⟩) hgw).trans x3;replace hgw:=Nat.lt_of_lt_of_le hgw bb0.size;replace F5:=F5.below bb0;obtain ⟨f,f0,f1,-⟩:=id F5.facts2;clear bb0;go_upto_region 15 with fail
        go_cut [9] (Boxed wx [.int .i64 e1,.int .i64 e2,.int .i64 e3])
        case first =>
         go_region_held3 (fun w'=>Below wx.heap.size wx w'∧∀ b o,b<wx.heap.size→w'.cell? ⟨b,o,none⟩=wx.cell? ⟨b,o,none⟩) (exact kept qHb) ((go_at_call 106;(with_reducible refine (R1.out _).mono ?_);rintro e wy ⟨rfl,rfl⟩))
         all_goals (go_wp2_with fail;go_meet)
         all_goals first
          | exact ⟨_,rfl,qSo,At.new _ _ _ rfl rfl,qHb⟩
          | exact ⟨_,rfl,qSo,(At.new _ _ _ rfl rfl).drew,qHb⟩
        case rest =>
         obtain ⟨G,rfl,hG,AG,bG⟩:=hcut;replace F5:=F5.below bG;replace hb5:=hb5.trans (bG.mono hb5.size);clear f f0 f1 x1 x2 x3 s0 s1 bG;obtain ⟨f,f0,f1,-⟩:=id F5.facts2;obtain ⟨z,z0,z1,z2,-⟩:=id AG.facts3;have k1:=cell_regrown f0;have k2:=cell_regrown z0;have k3:=cell_regrown z1;have k4:=cell_regrown z2
         have j1:=zaad (w:=wc) (fun w=>zabd e1 qO qO w)
         have j2:=zaad (w:=wc) (fun w=>zabd e2 qO qO w)
         have j3:=zaad (w:=wc) (fun w=>zabd e3 qO qO w)
         have j4:=zaad (w:=wc) (fun w=>zabd dd qO qO w)
         have t1:=zaag (n:=e1) qO qO;have t2:=zaag (n:=e2) qO qO;have t3:=zaag (n:=e3) qO qO;have t4:=zaag (n:=dd) qO qO;have n1:¬ 9223372036854775807<(itoaB e1).size+1:=qO;have n2:¬ 9223372036854775807<(itoaB e1).size+1+(itoaB e2).size:=qO;have n3:¬ 9223372036854775807<(itoaB e1).size+1+(itoaB e2).size+1:=qO;have n4:¬ 9223372036854775807<(itoaB e1).size+1+(itoaB e2).size+1+(itoaB e3).size:=qO;have n5:¬ 9223372036854775807<(itoaB e1).size+1+(itoaB e2).size+1+(itoaB e3).size+1:=qO;have n6:¬ 9223372036854775807<(itoaB e1).size+1+(itoaB e2).size+1+(itoaB e3).size+1+(itoaB dd).size:=qO;go_upto_region 16 with fail;refine wp_region_quiet_below (by kernel_rfl) (by kernel_rfl) ?_
         repeat (quiet_step (first|with_reducible exact j1 _ _|with_reducible exact j2 _ _|with_reducible exact j3 _ _|with_reducible exact j4 _ _))
         refine wpQuiet_nil ?_;intro _ hw';obtain ⟨⟨dq,osq⟩,hw''⟩:=hw';have fin:Below w.heap.size w (grow (redrawn wc dq) osq):=hb5.trans ((below_regrown wc dq osq).mono hb5.size);subst hw'';generalize grow (redrawn wc dq) osq=W2 at fin ⊢
         go_wp2
         go_ret
         exact ⟨by rw [HA.out];rfl,fin⟩
   · have hi1:inB n 0 (nst - 1)=false:=by simp [inB];omega
     rw [hi1] at R2
     have hwB:whereB ⟨nst,nl⟩ n=unkB:=by unfold whereB;rw [if_neg (fun h=>hin h.2)]
     rw [hwB] at hA;have HA:=Lib.hid hA;clear hA hwB hlk oN5 hi1;generalize linked ⟨nst,nl⟩=lv
     as_aux_lemma =>
      go_upto_region 14 with fail;have k1:=cell_regrown s0;have k3:=cell_regrown y0;have k2:=cell_regrown s1
      have j1:=zaad (w:=w5) (fun w=>(R1.out w).mono fun e w' h=>⟨h.1,h.2▸Below.refl _ _⟩)
      have j2:=zaad (w:=w5) (fun w=>(R2.out w).mono fun e w' h=>⟨h.1,h.2▸Below.refl _ _⟩)
      refine wp_region_quiet_below (by kernel_rfl) (by kernel_rfl) ?_
      repeat (first|go_big_quiet_step (first|with_reducible exact j1 _ _|with_reducible exact j2 _ _)|quiet_step (first|with_reducible exact j1 _ _|with_reducible exact j2 _ _))
      refine wpQuiet_nil ?_;intro _ hw';obtain ⟨⟨dq,osq⟩,hw''⟩:=hw';have bb0:Below w5.heap.size w5 (grow (redrawn w5 dq) osq):=below_regrown w5 dq osq;subst hw'';generalize grow (redrawn w5 dq) osq=wx at bb0 ⊢;replace s0:=(bb0.cell (p:=⟨P,po,none⟩) hPw).trans s0;replace s1:=(bb0.cell (p:=⟨P,po+1,none⟩) hPw).trans s1;replace hPw:=Nat.lt_of_lt_of_le hPw bb0.size;replace Y5:=Y5.below bb0;replace hb5:=hb5.trans (bb0.mono hb5.size);clear k1 k3 k2 j1 j2 y y0 y1 f f0 f1 hz oT;obtain ⟨y,y0,y1,-⟩:=id Y5.facts2
      go_wp2_with (first|(go_at_call 106;(refine (R1.out _).mono ?_);rintro e wy ⟨rfl,rfl⟩)|(go_at_call 85;(refine (R3.out _).mono ?_);rintro e wy ⟨rfl,rfl⟩))
      go_ret
      exact ⟨by rw [HA.out];rfl,hb5⟩
end Go.Proofs.YthfoloefkfadlaaGreatDoor
