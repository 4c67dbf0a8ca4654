/- Walks: answers to questions, impl (surveyAnswer). -/
import Derived.Test.YthfoloefkfadlaaGreatDoorM4
import Derived.Test.YthfoloefkfadlaaGreatDoorM9
import Derived.Test.YthfoloefkfadlaaGreatDoorP2
import Derived.Test.YthfoloefkfadlaaGreatDoorT6
set_option linter.unusedSimpArgs false
set_option linter.unusedVariables false
set_option maxHeartbeats 2000000
set_option maxRecDepth 100000
namespace Go.Proofs.YthfoloefkfadlaaGreatDoor
open Go Go.RowKit Go.Sort
theorem zaax (s:ByteArray) (L:List UInt8):(s.toList == L)=decide (s=⟨L.toArray⟩):=by
 rw [Lib.toList_data]
 by_cases h:s=⟨L.toArray⟩
 · subst h;simp
 · have:s.data.toList≠L:=fun e=>h (zal9 e)
   simp [h,this]
theorem zasf (l:List UInt8):Lib.hasPrefix l preW=decide (l.take 6=preW):=by
 unfold Lib.hasPrefix
 by_cases h:l.take 6=preW
 · rw [decide_eq_true h,List.isPrefixOf_iff_prefix]
   exact ⟨l.drop 6,by rw [← h,List.take_append_drop]⟩
 · rw [decide_eq_false h]
   rw [Bool.eq_false_iff];intro hp;rw [List.isPrefixOf_iff_prefix] at hp;obtain ⟨t,rfl⟩:=hp
   exact h (by simp [preW])
theorem zawx (l:List UInt8):Lib.trimPrefix l preW=if l.take 6=preW then l.drop 6 else l:=by
 unfold Lib.trimPrefix;rw [zasf]
 by_cases h:l.take 6=preW
 · rw [decide_eq_true h,if_pos rfl,if_pos h];rfl
 · rw [decide_eq_false h,if_neg qP,if_neg h]
theorem zax5 {s:ByteArray} {v:Int} (h:Lib.atoiAll s.data.toList=.ok v):atoF s=some v:=by unfold atoF;rw [h]
theorem zax6 {s:ByteArray} {v:Int} (h:atoF s=some v):Lib.atoiAll s.data.toList=.ok v:=by
 unfold atoF at h
 split at h
 · rename_i e;cases h;exact e
 · cases h
theorem zamz {s:Sv} (h:svOk s=true) {k:Nat} (hk:(k:Int)<s.st):(-1000000000000000≤(nth (fixNums s) k).e∧(nth (fixNums s) k).e≤1000000000000000)∧(-1000000000000000≤(nth (fixNums s) k).n∧(nth (fixNums s) k).n≤1000000000000000)∧(-1000000000000000≤(nth (fixNums s) k).u∧(nth (fixNums s) k).u≤1000000000000000):=by
 cases k with
 | zero=>simp [fixNums,nth]
 | succ k =>
   have hk2:k<s.st.toNat - 1:=qO
   have e:nth (fixNums s) (k+1)=fixW s k:=by simp [fixNums,nth,hk2]
   rw [e]
   exact ⟨zafa h (.inl rfl) hk2,zafa h (.inr (.inl rfl)) hk2,zafa h (.inr (.inr rfl)) hk2⟩
theorem zakw (a:Option Addr) (c:Nat) (st:Int) (l:List Lg) (line:ByteArray) (w:World) (hv:svOk ⟨st,l⟩=true) (hs:Legs w a l) (hw:Lby w) (hq:line=nowT∨line=loopsT∨line=treesT∨line=closesT) :
 Calls Tryz.prog 66 #[.agg #[.int .i64 st,.slice a l.length c],.string line] w fun e w'=>e=.returned (.string (askF ⟨st,l⟩ line))∧Below w.heap.size w w':=by
 obtain ⟨v1,v2,v3⟩:=st_in hv;simp only at v1 v2 v3
 rcases hq with rfl|rfl|rfl|rfl
 · have HA:Hid (askF ⟨st,l⟩ nowT=surveyB ⟨st,l⟩):=by show _=_;unfold askF;rw [if_pos rfl]
   have i1:=fun w h hp=>zaeh a c st l w qO h hp
   clear hv;unfold nowT at HA ⊢
   go_enter Tryz.func66,Tryz.ntmps66
   go_wp2_with fail;refine (i1 _ (hs.below qBl) (hw.below qBl).pow).mono ?_;rintro e w1 ⟨rfl,b1⟩;go_wp2_with fail;go_ret
   exact ⟨by rw [HA.out];rfl,Below.trans qBl (b1.mono qP)⟩
 · have HA:Hid (askF ⟨st,l⟩ loopsT=itoaB (loopsF ⟨st,l⟩)):=by show _=_;unfold askF;rw [if_neg (by decide),if_pos rfl]
   have hb:=zaik hv
   have i1:=fun w h=>zan3 a c st l w hv h
   obtain ⟨x,hx⟩:=qN (loopsF ⟨st,l⟩);rw [hx] at HA hb i1
   have i2:=fun w hp=>zabu x qO qO w hp
   clear hv hx;unfold loopsT at HA ⊢
   go_enter Tryz.func66,Tryz.ntmps66
   go_wp2_with fail;refine (i1 _ (hs.below qBl)).mono ?_;rintro e w1 ⟨rfl,b1⟩;have hb1:Below w.heap.size w w1:=Below.trans qBl (b1.mono qP);go_wp2_with fail;refine (i2 _ (hw.below hb1).pow).mono ?_;rintro e w2 ⟨rfl,b2⟩;go_wp2_with fail;go_ret
   exact ⟨by rw [HA.out];rfl,hb1.trans (b2.mono hb1.size)⟩
 · have HA:Hid (askF ⟨st,l⟩ treesT=itoaB (treesF ⟨st,l⟩)):=by show _=_;unfold askF;rw [if_neg (by decide),if_neg (by decide),if_pos rfl]
   have hb:=zaei hv
   have i1:=fun w h=>zank a c st l w hv h
   obtain ⟨x,hx⟩:=qN (treesF ⟨st,l⟩);rw [hx] at HA hb i1
   have i2:=fun w hp=>zabu x qO qO w hp
   clear hv hx;unfold treesT at HA ⊢
   go_enter Tryz.func66,Tryz.ntmps66
   go_wp2_with fail;refine (i1 _ (hs.below qBl)).mono ?_;rintro e w1 ⟨rfl,b1⟩;have hb1:Below w.heap.size w w1:=Below.trans qBl (b1.mono qP);go_wp2_with fail;refine (i2 _ (hw.below hb1).pow).mono ?_;rintro e w2 ⟨rfl,b2⟩;go_wp2_with fail;go_ret
   exact ⟨by rw [HA.out];rfl,hb1.trans (b2.mono hb1.size)⟩
 · have HA:Hid (askF ⟨st,l⟩ closesT=if closesF ⟨st,l⟩ then yesB else noB):=by show _=_;unfold askF;rw [if_neg (by decide),if_neg (by decide),if_neg (by decide),if_pos rfl]
   have i1:=fun w h=>zati a c st l w hv h
   obtain ⟨x,hx⟩:=qN (closesF ⟨st,l⟩);rw [hx] at HA i1;clear hv hx;unfold closesT at HA ⊢
   cases x
   · go_enter Tryz.func66,Tryz.ntmps66
     go_wp2_with fail;refine (i1 _ (hs.below qBl)).mono ?_;rintro e w1 ⟨rfl,b1⟩;have hb1:Below w.heap.size w w1:=Below.trans qBl (b1.mono qP);go_wp2_with fail;go_ret
     exact ⟨by rw [HA.out];rfl,hb1⟩
   · go_enter Tryz.func66,Tryz.ntmps66
     go_wp2_with fail;refine (i1 _ (hs.below qBl)).mono ?_;rintro e w1 ⟨rfl,b1⟩;have hb1:Below w.heap.size w w1:=Below.trans qBl (b1.mono qP);go_wp2_with fail;go_ret
     exact ⟨by rw [HA.out];rfl,hb1⟩
theorem zakx (a:Option Addr) (c:Nat) (st:Int) (l:List Lg) (line:ByteArray) (w:World) (hv:svOk ⟨st,l⟩=true) (hs:Legs w a l) (hsz:line.size≤1048576) (hw:Lby w) (hq:¬ (line=nowT∨line=loopsT∨line=treesT∨line=closesT)) :
 Calls Tryz.prog 66 #[.agg #[.int .i64 st,.slice a l.length c],.string line] w fun e w'=>e=.returned (.string (askF ⟨st,l⟩ line))∧Below w.heap.size w w':=by
 obtain ⟨v1,v2,v3⟩:=st_in hv;simp only at v1 v2 v3
 have q1:line≠nowT:=fun e=>hq (.inl e)
 have q2:line≠loopsT:=fun e=>hq (.inr (.inl e))
 have q3:line≠treesT:=fun e=>hq (.inr (.inr (.inl e)))
 have q4:line≠closesT:=fun e=>hq (.inr (.inr (.inr e)))
 have f1:(line.toList == [110,111,119])=false:=by rw [zaax];exact decide_eq_false q1
 have f2:(line.toList == [108,111,111,112,115])=false:=by rw [zaax];exact decide_eq_false q2
 have f3:(line.toList == [116,114,101,101,115])=false:=by rw [zaax];exact decide_eq_false q3
 have f4:(line.toList == [99,108,111,115,101,115])=false:=by rw [zaax];exact decide_eq_false q4
 have hA:askF ⟨st,l⟩ line=(match whereF line.data.toList with|some n=>whereB ⟨st,l⟩ n|none=>whatB):=by
  unfold askF;rw [if_neg q1,if_neg q2,if_neg q3,if_neg q4];cases whereF line.data.toList <;> rfl
 have i0:∀ w,Calls Tryz.prog 118 #[.string line,.string ⟨#[119,104,101,114,101,32]⟩] w fun e w'=>e=.returned (.tuple #[.string (toB (if line.data.toList.take 6=preW then line.data.toList.drop 6 else line.data.toList)),.bool (decide (line.data.toList.take 6=preW))])∧w'=w:=fun w=>by
  refine (Tryz.strings_CutPrefix line ⟨#[119,104,101,114,101,32]⟩ w).mono fun e w' h=>?_
  have e1:(⟨#[119,104,101,114,101,32]⟩:ByteArray).data.toList=preW:=rfl;rw [e1,zasf,zawx] at h
  exact h
 clear q1 q2 q3 q4 hq
 by_cases hp:line.data.toList.take 6=preW
 case neg =>
  have hwn:whereF line.data.toList=none:=by unfold whereF;rw [if_neg (fun h=>hp h.1)]
  rw [hwn] at hA;rw [if_neg hp,decide_eq_false hp,show toB line.data.toList=line from rfl] at i0
  rw [show (match (none:Option Int) with|some n=>whereB ⟨st,l⟩ n|none=>whatB)=whatB from rfl] at hA
  rw [hA];unfold whatB;have I0:=Lib.hid i0;clear hA hwn hp hv i0
  cases ha:atoF line with
  | some v =>
    have i1:=fun w=>zae9 ha w hsz
    have I1:=Lib.hid i1;clear i1 ha
    go_enter Tryz.func66,Tryz.ntmps66
    go_upto_region 12 with fail;have i0:=I0.out;go_wp2_with fail;refine (i0 _).mono ?_;rintro e w1 ⟨rfl,rfl⟩;have i1:=I1.out;go_wp2_with fail;refine (i1 _).mono ?_;rintro e w2 ⟨rfl,b2⟩;go_wp2_with fail;go_ret
    exact ⟨rfl,Below.trans qBl (b2.mono qP)⟩
  | none =>
    have i1:=fun w h=>zagm ha w hsz h
    have I1:=Lib.hid i1;clear i1 ha
    go_enter Tryz.func66,Tryz.ntmps66
    go_upto_region 12 with fail;have i0:=I0.out;go_wp2_with fail;refine (i0 _).mono ?_;rintro e w1 ⟨rfl,rfl⟩;have i1:=I1.out;go_wp2_with fail;refine (i1 _ (hw.below qBl)).mono ?_;rintro e w2 ⟨v,t,p,rfl,b2⟩;go_wp2_with fail;go_ret
    exact ⟨rfl,Below.trans qBl (b2.mono qP)⟩
 rw [if_pos hp,decide_eq_true hp] at i0;obtain ⟨T,hT⟩:=qN (toB (line.data.toList.drop 6))
 have hTd:T.data.toList=line.data.toList.drop 6:=by rw [← hT];simp
 have hTs:T.size≤1048576:=by
  have e1:T.size=T.data.toList.length:=rfl;have e2:line.size=line.data.toList.length:=rfl;rw [e1,hTd,List.length_drop];omega
 rw [hT] at i0
 cases hwf:whereF line.data.toList with
 | none =>
   rw [hwf] at hA
   rw [show (match (none:Option Int) with|some n=>whereB ⟨st,l⟩ n|none=>whatB)=whatB from rfl] at hA
   rw [hA];have hno:=zar0 hwf hp;rw [← hTd] at hno;unfold whatB;have I0:=Lib.hid i0;clear hA hwf hp hv i0 hTd hT
   cases ha:atoF T with
   | some v =>
     have hno2:=hno v (zax6 ha)
     have i1:=fun w=>zae9 ha w hTs
     have I1:=Lib.hid i1;clear i1 ha hno
     by_cases h0:v<0
     · have h0b:decide (v<0)=true:=decide_eq_true h0
       clear hno2
       go_enter Tryz.func66,Tryz.ntmps66
       go_upto_region 12 with fail;have i0:=I0.out;go_wp2_with fail;refine (i0 _).mono ?_;rintro e w1 ⟨rfl,rfl⟩;have i1:=I1.out;go_wp2_with fail;refine (i1 _).mono ?_;rintro e w2 ⟨rfl,b2⟩;go_wp2_with fail;go_ret
       exact ⟨rfl,Below.trans qBl (b2.mono qP)⟩
     · by_cases h9:9999≤v
       · have h0b:decide (v<0)=false:=decide_eq_false h0
         have h9b:decide (9999≤v)=true:=decide_eq_true h9;clear hno2
         go_enter Tryz.func66,Tryz.ntmps66
         go_upto_region 12 with fail;have i0:=I0.out;go_wp2_with fail;refine (i0 _).mono ?_;rintro e w1 ⟨rfl,rfl⟩;have i1:=I1.out;go_wp2_with fail;refine (i1 _).mono ?_;rintro e w2 ⟨rfl,b2⟩;go_wp2_with fail;go_ret
         exact ⟨rfl,Below.trans qBl (b2.mono qP)⟩
       · have h0b:decide (v<0)=false:=decide_eq_false h0
         have h9b:decide (9999≤v)=false:=decide_eq_false h9
         have hne:itoaB v≠T:=fun e=>hno2 ⟨by omega,by omega,by rw [← e];simp [itoaB]⟩
         have hne2:(itoaB v).toList≠T.toList:=fun e=>hne (by
          rw [Lib.toList_data,Lib.toList_data] at e
          exact ByteArray.ext (Array.toList_inj.1 e))
         have hne3:((itoaB v).toList != T.toList)=true:=by simpa using hne2
         have hne4:((itoaB v).toList == T.toList)=false:=by simpa using hne2
         have I2:=Lib.hid (fun w hp=>zabu v qO qO w hp)
         clear hno2
         go_enter Tryz.func66,Tryz.ntmps66
         go_upto_region 12 with fail;have i0:=I0.out;go_wp2_with fail;refine (i0 _).mono ?_;rintro e w1 ⟨rfl,rfl⟩;have i1:=I1.out;go_wp2_with fail;refine (i1 _).mono ?_;rintro e w2 ⟨rfl,b2⟩;have i2:=I2.out;have hb2:Below w.heap.size w w2:=Below.trans qBl (b2.mono qP);go_wp2_with fail;refine (i2 _ (hw.below hb2).pow).mono ?_;rintro e w3 ⟨rfl,b3⟩;go_wp2_with fail;go_ret
         exact ⟨rfl,hb2.trans (b3.mono hb2.size)⟩
   | none =>
     have i1:=fun w h=>zagm ha w hTs h
     have I1:=Lib.hid i1;clear i1 ha hno
     go_enter Tryz.func66,Tryz.ntmps66
     go_upto_region 12 with fail;have i0:=I0.out;go_wp2_with fail;refine (i0 _).mono ?_;rintro e w1 ⟨rfl,rfl⟩;have i1:=I1.out;go_wp2_with fail;refine (i1 _ (hw.below qBl)).mono ?_;rintro e w2 ⟨v,t,p,rfl,b2⟩;go_wp2_with fail;go_ret
     exact ⟨rfl,Below.trans qBl (b2.mono qP)⟩
 | some n =>
   rw [hwf] at hA
   rw [show (match (some n:Option Int) with|some n=>whereB ⟨st,l⟩ n|none=>whatB)=whereB ⟨st,l⟩ n from rfl] at hA
   obtain ⟨-,g0,g9,gd,ga,-⟩:=zagf hwf
   have hTe:T=itoaB n:=by rw [← hT,gd];rfl
   have ha:atoF T=some n:=zax5 (by rw [hTd];exact ga);subst hTe
   have I1:=Lib.hid (fun w=>zae9 ha w hTs)
   have I2:=Lib.hid (fun w hp=>zabu n qO qO w hp)
   have i3:=fun w h=>zasw a c st l w hv h
   have I0:=Lib.hid i0;unfold FixOut at i3;have hn0:decide (n<0)=false:=decide_eq_false qO;have hn9:decide (9999≤n)=false:=decide_eq_false qO;have hn0':¬ n<0:=qO;have hn9':¬ 9999≤n:=qO;clear hTd hT ha ga gd hwf hp i0
   by_cases hlk:linked ⟨st,l⟩=true
   · by_cases hns:n<st
     · have hwB:whereB ⟨st,l⟩ n=placeB ⟨st,l⟩ n:=by unfold whereB;rw [if_pos ⟨hlk,hns⟩]
       rw [hwB] at hA;rw [hlk] at i3;have hlen:=zaij (s:=⟨st,l⟩) v1;simp only at hlen;obtain ⟨k,rfl⟩:∃ k:Nat,n=(k:Int):=⟨n.toNat,by omega⟩;have htb:=zaei hv
       have hpb:placeB ⟨st,l⟩ (k:Int)=wayB (nth (fixNums ⟨st,l⟩) k).e (nth (fixNums ⟨st,l⟩) k).n (nth (fixNums ⟨st,l⟩) k).u ++ ⟨#[47]⟩ ++ itoaB (treesF ⟨st,l⟩):=by unfold placeB;simp
       have hsm:(-1000000000000000≤(nth (fixNums ⟨st,l⟩) k).e∧(nth (fixNums ⟨st,l⟩) k).e≤1000000000000000)∧(-1000000000000000≤(nth (fixNums ⟨st,l⟩) k).n∧(nth (fixNums ⟨st,l⟩) k).n≤1000000000000000)∧(-1000000000000000≤(nth (fixNums ⟨st,l⟩) k).u∧(nth (fixNums ⟨st,l⟩) k).u≤1000000000000000):=zamz hv qO;rw [hpb] at hA;have HA:=Lib.hid hA;have I3:=Lib.hid i3;have HSM:=Lib.hid hsm;have HLN:=Lib.hid hlen;clear hA hwB hpb i3 hlk hv hsm hlen;have hnb:decide (st≤(k:Int))=false:=decide_eq_false qO;have hnb':¬ st≤(k:Int):=qO
       go_enter Tryz.func66,Tryz.ntmps66
       go_upto_region 12 with fail;obtain ⟨X,hX⟩:=qN (w.heap.size);have A0:At (w.alloc (.cells #[.int .i64 st,.slice a l.length c] 25)) X [.int .i64 st,.slice a l.length c]:=At.new w _ 25 hX.symm rfl;have b0:Below w.heap.size w (w.alloc (.cells #[.int .i64 st,.slice a l.length c] 25)):=qBl;rw [hX];have i0:=I0.out;go_wp2_with fail;refine (i0 _).mono ?_;rintro e w1 ⟨rfl,rfl⟩;have i1:=I1.out;go_wp2_with fail;refine (i1 _).mono ?_;rintro e w2 ⟨rfl,b2⟩;have A2:=A0.below b2;have hb2:Below w.heap.size w w2:=b0.trans (b2.mono b0.size);have i2:=I2.out;clear b2 A0 b0 i0 i1;go_wp2_with fail;refine (i2 _ (hw.below hb2).pow).mono ?_;rintro e w3 ⟨rfl,b3⟩;have A3:=A2.below b3;have hb3:Below w.heap.size w w3:=hb2.trans (b3.mono hb2.size);clear b3 A2 hb2 i2;obtain ⟨y,y0,y1,-⟩:=id A3.facts2;have i3:=I3.out;go_wp2_with fail;refine (i3 _ (hs.below hb3)).mono ?_;rintro e w4 ⟨d,ns,av,cv,rfl,o4,hlkf,b4⟩;have A4:=A3.below b4;have hb4:Below w.heap.size w w4:=hb3.trans (b4.mono hb3.size);clear b4 A3 hb3 i3 y y0 y1;obtain ⟨y,y0,y1,-⟩:=id A4.facts2;obtain ⟨rfl,rfl⟩:=(by first|exact hlkf rfl|exact hlkf trivial:d=treesF ⟨st,l⟩∧ns=fixNums ⟨st,l⟩)
       have hkl:k<(fixNums ⟨st,l⟩).length:=by have:=HLN.out;omega
       have hkl2:(k:Int)<((fixNums ⟨st,l⟩).length:Int):=qO;obtain ⟨g,rfl,-,-,hgw,hgc,-⟩:=OwnW.form o4 qO;obtain ⟨x1,x2,x3⟩:=hgc k hkl;have hsm:=HSM.out;obtain ⟨F,hF⟩:=qN (w4.heap.size);have hgF:g<F:=qO;have hXF:X<F:=qO;go_upto_region 19 with fail
       try rw [hF]
       obtain ⟨e1,he1⟩:=qN ((nth (fixNums ⟨st,l⟩) k).e);obtain ⟨e2,he2⟩:=qN ((nth (fixNums ⟨st,l⟩) k).n);obtain ⟨e3,he3⟩:=qN ((nth (fixNums ⟨st,l⟩) k).u);obtain ⟨dd,hdd⟩:=qN (treesF ⟨st,l⟩);obtain ⟨N,hN⟩:=qN ((fixNums ⟨st,l⟩).length);rw [he1,he2,he3] at HA hsm;rw [he1] at x1;rw [he2] at x2;rw [he3] at x3;rw [hdd] at HA htb ⊢;rw [hN] at hkl2 hkl ⊢;clear he1 he2 he3 hdd hN hgc o4 HSM HLN A4 y y0 y1;obtain ⟨W,hW⟩:=qM (w4.alloc (.cells #[.int .i64 dd,.slice (some ⟨g,0,none⟩) N cv] 129))
       have bW:Below w4.heap.size w4 W:=by rw [hW];exact qBl
       have c1:W.cell? ⟨F,0,none⟩=some (.int .i64 dd):=by rw [hW,← hF];simp
       have c2:W.cell? ⟨F,1,none⟩=some (.slice (some ⟨g,0,none⟩) N cv):=by rw [hW,← hF];simp
       have c3:=(bW.cell (p:=⟨g,k*3,none⟩) hgw).trans x1;have c4:=(bW.cell (p:=⟨g,k*3+1,none⟩) hgw).trans x2;have c5:=(bW.cell (p:=⟨g,k*3+2,none⟩) hgw).trans x3;rw [← hW];have hbW:Below w.heap.size w W:=hb4.trans (bW.mono hb4.size);have pW:=(hw.below hbW).pow;clear hW bW x1 x2 x3;have k1:=cell_regrown c1;have k2:=cell_regrown c2;have k3:=cell_regrown c3;have k4:=cell_regrown c4;have k5:=cell_regrown c5;have i5:=zabs pW (zai9 e1 e2 e3 qO qO qO);have i6:=zabs pW (zabu dd qO qO);have s1:=zaag (n:=e1) qO qO;have s2:=zaag (n:=e2) qO qO;have s3:=zaag (n:=e3) qO qO;have s4:=zaag (n:=dd) qO qO
       have s6:(wayB e1 e2 e3).size≤65:=by unfold wayB;simp only [ByteArray.size_append];show _+1+_+1+_≤_;omega
       have n1:¬ 9223372036854775807<(wayB e1 e2 e3).size+1:=qO;have n2:¬ 9223372036854775807<(wayB e1 e2 e3).size+1+(itoaB dd).size:=qO;refine wp_region_quiet_below (by kernel_rfl) (by kernel_rfl) ?_
       repeat (quiet_step (first|with_reducible exact i5 _ _|with_reducible exact i6 _ _))
       refine wpQuiet_nil ?_;intro _ hw';obtain ⟨⟨dq,osq⟩,hw''⟩:=hw';have fin:Below w.heap.size w (grow (redrawn W dq) osq):=hbW.trans ((below_regrown W dq osq).mono hbW.size);subst hw'';generalize grow (redrawn W dq) osq=W2 at fin ⊢
       go_wp2
       go_ret
       exact ⟨by rw [HA.out];rfl,fin⟩
     · have hwB:whereB ⟨st,l⟩ n=unkB:=by unfold whereB;rw [if_neg (fun h=>hns h.2)]
       rw [hwB] at hA;rw [hlk] at i3;have HA:=Lib.hid hA;have I3:=Lib.hid i3;clear hA hwB i3 hlk hv;have hnb:decide (st≤n)=true:=decide_eq_true qO;have hnb':st≤n:=qO
       go_enter Tryz.func66,Tryz.ntmps66
       go_upto_region 12 with fail;obtain ⟨X,hX⟩:=qN (w.heap.size);have A0:At (w.alloc (.cells #[.int .i64 st,.slice a l.length c] 25)) X [.int .i64 st,.slice a l.length c]:=At.new w _ 25 hX.symm rfl;have b0:Below w.heap.size w (w.alloc (.cells #[.int .i64 st,.slice a l.length c] 25)):=qBl;rw [hX];have i0:=I0.out;go_wp2_with fail;refine (i0 _).mono ?_;rintro e w1 ⟨rfl,rfl⟩;have i1:=I1.out;go_wp2_with fail;refine (i1 _).mono ?_;rintro e w2 ⟨rfl,b2⟩;have A2:=A0.below b2;have hb2:Below w.heap.size w w2:=b0.trans (b2.mono b0.size);have i2:=I2.out;clear b2 A0 b0 i0 i1;go_wp2_with fail;refine (i2 _ (hw.below hb2).pow).mono ?_;rintro e w3 ⟨rfl,b3⟩;have A3:=A2.below b3;have hb3:Below w.heap.size w w3:=hb2.trans (b3.mono hb2.size);clear b3 A2 hb2 i2;obtain ⟨y,y0,y1,-⟩:=id A3.facts2;have i3:=I3.out;go_wp2_with fail;refine (i3 _ (hs.below hb3)).mono ?_;rintro e w4 ⟨d,ns,av,cv,rfl,o4,hlkf,b4⟩;have A4:=A3.below b4;have hb4:Below w.heap.size w w4:=hb3.trans (b4.mono hb3.size);clear b4 A3 hb3 i3 y y0 y1;obtain ⟨y,y0,y1,-⟩:=id A4.facts2;clear hlkf o4;go_wp2_with fail;go_ret
       exact ⟨by rw [HA.out];rfl,Below.trans hb4 (Below.mono (show Below w4.heap.size w4 _ from qBl) hb4.size)⟩
   · have hwB:whereB ⟨st,l⟩ n=unkB:=by unfold whereB;rw [if_neg (fun h=>hlk h.1)]
     have hlk2:linked ⟨st,l⟩=false:=by simpa using hlk
     rw [hwB] at hA;rw [hlk2] at i3;have HA:=Lib.hid hA;have I3:=Lib.hid i3;clear hA hwB i3 hlk hlk2 hv
     go_enter Tryz.func66,Tryz.ntmps66
     go_upto_region 12 with fail;obtain ⟨X,hX⟩:=qN (w.heap.size);have A0:At (w.alloc (.cells #[.int .i64 st,.slice a l.length c] 25)) X [.int .i64 st,.slice a l.length c]:=At.new w _ 25 hX.symm rfl;have b0:Below w.heap.size w (w.alloc (.cells #[.int .i64 st,.slice a l.length c] 25)):=qBl;rw [hX];have i0:=I0.out;go_wp2_with fail;refine (i0 _).mono ?_;rintro e w1 ⟨rfl,rfl⟩;have i1:=I1.out;go_wp2_with fail;refine (i1 _).mono ?_;rintro e w2 ⟨rfl,b2⟩;have A2:=A0.below b2;have hb2:Below w.heap.size w w2:=b0.trans (b2.mono b0.size);have i2:=I2.out;clear b2 A0 b0 i0 i1;go_wp2_with fail;refine (i2 _ (hw.below hb2).pow).mono ?_;rintro e w3 ⟨rfl,b3⟩;have A3:=A2.below b3;have hb3:Below w.heap.size w w3:=hb2.trans (b3.mono hb2.size);clear b3 A2 hb2 i2;obtain ⟨y,y0,y1,-⟩:=id A3.facts2;have i3:=I3.out;go_wp2_with fail;refine (i3 _ (hs.below hb3)).mono ?_;rintro e w4 ⟨d,ns,av,cv,rfl,o4,hlkf,b4⟩;have A4:=A3.below b4;have hb4:Below w.heap.size w w4:=hb3.trans (b4.mono hb3.size);clear b4 A3 hb3 i3 y y0 y1;obtain ⟨y,y0,y1,-⟩:=id A4.facts2;clear hlkf o4;go_wp2_with fail;go_ret
     exact ⟨by rw [HA.out];rfl,Below.trans hb4 (Below.mono (show Below w4.heap.size w4 _ from qBl) hb4.size)⟩
theorem zajp (a:Option Addr) (c:Nat) (st:Int) (l:List Lg) (line:ByteArray) (w:World) (hv:svOk ⟨st,l⟩=true) (hs:Legs w a l) (hsz:line.size≤1048576) (hw:Lby w) :
 Calls Tryz.prog 66 #[.agg #[.int .i64 st,.slice a l.length c],.string line] w fun e w'=>e=.returned (.string (askF ⟨st,l⟩ line))∧Below w.heap.size w w':=by
 by_cases hq:line=nowT∨line=loopsT∨line=treesT∨line=closesT
 · exact zakw a c st l line w hv hs hw hq
 · exact zakx a c st l line w hv hs hsz hw hq
end Go.Proofs.YthfoloefkfadlaaGreatDoor
