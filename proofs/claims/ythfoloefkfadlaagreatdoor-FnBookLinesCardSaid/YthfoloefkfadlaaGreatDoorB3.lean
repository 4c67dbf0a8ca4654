/- Walks: impl.ReadBook. -/
import Derived.Test.YthfoloefkfadlaaGreatDoorB2
import Derived.Test.YthfoloefkfadlaaGreatDoorT6
import Derived.Test.YthfoloefkfadlaaGreatDoorT5
set_option linter.unusedSimpArgs false
set_option linter.unusedVariables false
set_option maxHeartbeats 4000000
set_option maxRecDepth 100000
namespace Go.Proofs.YthfoloefkfadlaaGreatDoor
open Go Go.RowKit Go.Sort
theorem zap9 {W:List ByteArray} {q:Nat} {m:List ByteArray} (h:W.drop q=m):W.length - q=m.length:=by rw [← h,List.length_drop]
theorem zaww {W:List ByteArray} {q:Nat} {t:ByteArray} (h:W.drop q=[t]):W.dropLast.length≤q:=by
 have:=zap9 h;rw [List.length_dropLast]
 simp at this
 omega
theorem zax4 {W:List ByteArray} {q:Nat} {t r:ByteArray} (h:W.drop q=t :: cutB 10 r):q<W.dropLast.length∧nth W.dropLast q=t∧W.drop (q+1)=cutB 10 r:=by
 have h1:=zap9 h;have h2:=zag5 10 r;rw [List.length_cons] at h1;have hq:q<W.length:=qO;have h3:=zab3 hq;rw [h] at h3
 injection h3 with h4 h5
 refine ⟨by rw [List.length_dropLast];omega,?_,h5.symm⟩
 rw [zan5 qO,← h4]
def meaS:Value→Nat
 | .string r=>r.size
 | _=>0
theorem zaqa (s:ByteArray) (w:World) (hs:s.size≤1048576) (hw:Lby w):Calls Tryz.prog 15 #[.string s] w (RkOut (rdBk s) w):=by
 have i1:=fun w hw=>zaic 10 s w hs hw
 have HF:=Lib.hid (@zawu s)
 have HN:=Lib.hid (fun (v:Sv) (h:rdSvD (nth (cutB 10 s) 0)=(v,false))=>zax2 h)
 have HY:=Lib.hid (fun (v:Sv) (h:rdSvD (nth (cutB 10 s) 0)=(v,true)) (h2:2≤(cutB 10 s).length) (ds:List Dd) (n:Nat) (hd:rdDs 40 v (cutB 10 s).tail.dropLast=(ds,n))=>zap8 h h2 hd)
 go_enter Tryz.func15,Tryz.ntmps15
 go_wp2_with fail;obtain ⟨X,hX⟩:=qN (w.heap.size);obtain ⟨W0,hW0⟩:=qM (w.alloc (.cells #[.int .i64 0,.slice none 0 0,.slice none 0 0,.slice none 0 0] 28))
 have F0:At W0 X [.int .i64 0,.slice none 0 0,.slice none 0 0,.slice none 0 0]:=by rw [hW0];exact At.new _ _ _ hX.symm rfl
 have b0:Below w.heap.size w W0:=by rw [hW0];exact qBl
 rw [hX,← hW0];clear hW0;refine (i1 _ (hw.below b0)).mono ?_;rintro e w1 ⟨t0,r0,m0,rfl,HW,hz1,hz2,_,_,b1⟩;replace F0:=F0.below b1;replace b0:=b0.trans (b1.mono b0.size);clear b1 i1
 have e1:(cutB 10 s).tail=if m0 then cutB 10 r0 else []:=by rw [HW.out];rfl
 have e2:nth (cutB 10 s) 0=t0:=by rw [HW.out];rfl
 have e3:(cutB 10 s).length=(cutB 10 s).tail.length+1:=by rw [HW.out];rfl
 rw [e2] at HN HY;rw [e3] at HF HY;obtain ⟨ls,hls⟩:=qM ((cutB 10 s).tail);rw [← hls] at e1 HF HY;have HE:=Lib.hid e1;clear e1 e2 e3 hls HW
 have i2:=fun W hw=>zal5 t0 W qO hw
 obtain ⟨⟨⟨st,l⟩,sb⟩,hsb⟩:=qN (rdSvD t0);rw [hsb] at i2
 replace HN:=Lib.hid (fun (h:sb=false)=>HN.out ⟨st,l⟩ (by rw [hsb,h]))
 replace HY:=Lib.hid (fun (h:sb=true)=>HY.out ⟨st,l⟩ (by rw [hsb,h]))
 have hll:l.length≤1048576:=by
  have:=zatg t0;rw [hsb] at this;simp only at this
  omega
 clear hsb;go_wp2_with fail;refine (i2 _ (hw.below b0)).mono ?_;rintro e w2 ⟨v,rfl,ov,b2⟩;obtain ⟨av,cv,rfl⟩:=ov.sl;simp only at ov ⊢;have hw1:=F0.lt;replace F0:=F0.below b2;replace b0:=b0.trans (b2.mono b0.size);have hwv:w.heap.size≤w1.heap.size:=qO;clear b2 i2;go_upto_region 3 with fail;obtain ⟨Y,hY⟩:=qN (w2.heap.size);obtain ⟨V,hV⟩:=qM (w2.alloc (.cells #[.int .i64 st,.slice av l.length cv] 25))
 have A0:At V Y [.int .i64 st,.slice av l.length cv]:=by rw [hV];exact At.new _ _ _ hY.symm rfl
 have bV:Below w2.heap.size w2 V:=by rw [hV];exact qBl
 try rw [hY]
 rw [← hV];have hXY:=F0.lt;rw [hY] at hXY;replace F0:=F0.below bV;replace b0:=b0.trans (bV.mono b0.size)
 have hov:∀ k,(Value.slice av l.length cv).ownBlock=some k→w1.heap.size≤k∧k<Y:=fun k hk=>by have:=ov.lt hk;omega
 replace ov:=ov.below bV;clear bV hV hY;obtain ⟨r,rx0,rx1,rx2,rx3,rf⟩:=id F0.facts4
 by_cases hgood:m0=true∧sb=true
 case neg =>
  have fin:=fun (h:rdBk s=((⟨zeroSv,[],[]⟩,0),false))=>show RkOut (rdBk s) w _ _ by rw [h];exact zawv (X:=X) qO b0
  have FIN:=Lib.hid fin;clear fin
  cases m0 with
  | false =>
    have FIN2:=Lib.hid (FIN.out (HF.out (by rw [HE.out];simp)));clear FIN HN HY HF HE;go_wp2_with fail
    exact bodyPost_ret (v:=.tuple #[.agg #[.int .i64 0,.slice none 0 0,.slice none 0 0,.slice none 0 0],.int .i64 0,.bool false]) (by simp [results,Tryz.results15,go_sem,r,rx0,rx1,rx2,rx3]) rfl FIN2.out
  | true =>
    cases sb with
    | true=>exact absurd ⟨rfl,rfl⟩ hgood
    | false =>
      have FIN2:=Lib.hid (FIN.out (HN.out rfl));clear FIN HN HY HF HE hgood;go_wp2_with fail
      exact bodyPost_ret (v:=.tuple #[.agg #[.int .i64 0,.slice none 0 0,.slice none 0 0,.slice none 0 0],.int .i64 0,.bool false]) (by simp [results,Tryz.results15,go_sem,r,rx0,rx1,rx2,rx3]) rfl FIN2.out
 case pos =>
  obtain ⟨rfl,rfl⟩:=hgood;replace HE:=Lib.hid (show ls.drop 0=cutB 10 r0 by rw [HE.out];rfl);replace HY:=Lib.hid (HY.out rfl (by have h1:=zag5 10 r0;have h2:=HE.out;rw [List.drop_zero] at h2;rw [h2];omega));clear HN HF;obtain ⟨y,y0,y1,-⟩:=id A0.facts2;go_upto_region 6 with fail;obtain ⟨Z,hZ⟩:=qN (V.heap.size);obtain ⟨V2,hV2⟩:=qM (V.alloc (.cells #[.int .i64 st,.slice av l.length cv,.slice none 0 0,.slice none 0 0] 28))
  have Z0:At V2 Z [.int .i64 st,.slice av l.length cv,.slice none ([]:List Dd).length 0,.slice none 0 0]:=by rw [hV2];exact At.new _ _ _ hZ.symm rfl
  have bV:Below V.heap.size V V2:=by rw [hV2];exact qBl
  try rw [hZ]
  rw [← hV2];rw [hZ] at y;replace F0:=F0.below bV;replace A0:=A0.below bV;replace b0:=b0.trans (bV.mono b0.size);replace ov:=ov.below bV;clear bV hV2 hZ y0 y1 r rx0 rx1 rx2 rx3 rf;obtain ⟨-,y0,y1,-⟩:=id A0.facts2;have hk2:=ov.kr;go_wp2_with fail;refine (zaai av cv st l V2 hll hk2).mono ?_;rintro e w3 ⟨v,rfl,on,b3⟩;obtain ⟨an,cn,rfl⟩:=on.sl;simp only at on ⊢;obtain ⟨T,hTT⟩:=qN (w3.heap.size);obtain ⟨V4,hV4⟩:=qM (w3.alloc (.cells #[.int .i64 st,.slice an l.length cn] 25))
  have T0:At V4 T [.int .i64 st,.slice an l.length cn]:=by rw [hV4];exact At.new _ _ _ hTT.symm rfl
  have b4:Below w3.heap.size w3 V4:=by rw [hV4];exact qBl
  obtain ⟨B,hB⟩:=qN (V4.heap.size)
  have hTB:T<B:=by have:=T0.lt;omega
  have hZ2:=Z0.lt;have hz3:=b3.size
  have ST:BkSt w X Z T B st av cv l [] none 0 st an cn l V4:=by
   have b34:=b3.trans (b4.mono b3.size)
   refine ⟨F0.below b34,Z0.below b34,T0,(ov.below b34).mono qO,KOwn.nil,(on.below b4).mono qO,fun k hk=>?_,fun k hk=>?_,by omega,by omega,by omega,hTB,by omega,b0.trans (b34.mono b0.size)⟩
   · have:=hov k hk
     exact ⟨by omega,by omega,by omega,by omega⟩
   · have:=on.lt hk
     exact ⟨by omega,by omega,by omega,fun e=>by cases e⟩
  go_upto_region 8 with fail
  try rw [hTT]
  rw [← hV4];clear F0 A0 b0 ov y0 y1 hk2 b3 on hTT hV4 T0 b4 hB hZ2 hz3 Z0 hov
  go_loopw [5,6,7,12] (fun x rest y n wr=>∃ (ds:List Dd) (nb:Nat) (nst:Int) (nl:List Lg) (an:Option Addr) (cn:Nat) (ad:Option Addr) (cd:Nat) (r:ByteArray),ds.length≤40∧rest=.string r∧r.size≤1048576∧n=.int .i64 ((t0.size+1+nb:Nat):Int)∧nb≤ds.length*1048577∧Hid (ls.drop ds.length=cutB 10 r)∧Hid (Rding ⟨st,l⟩ ls.dropLast ds nb ⟨nst,nl⟩)∧nl.length≤1048576∧BkSt w X Z T B st av cv l ds ad cd nst an cn nl wr) (fun _ rest _ _ _=>meaS rest)
  case atStart=>exact ⟨[],0,st,l,an,cn,none,0,r0,by simp,rfl,by omega,by simp,by omega,HE,Lib.hid (Rding.start _ _),hll,ST⟩
  case round =>
   clear ST HE;obtain ⟨ds,nb,nst,nl,an,cn,ad,cd,r,h40,rfl,hrs,rfl,hnb,HE,HR,hnl,ST⟩:=hrel
   by_cases hd40:ds.length<40
   case neg =>
    have h2:¬ (ds.length:Int)<40:=qO;have HD:=Lib.hid (show rdBk s=((⟨⟨st,l⟩,ds,[]⟩,t0.size+1+nb),true) from HY.out ds nb (HR.out.full qO));have FIN:=Lib.hid (ST.done (t0.size+1+nb));rw [← HD.out] at FIN;clear HY HD;obtain ⟨rx,rx0,rx1,rx2,rx3,rxf⟩:=id ST.x.facts4;obtain ⟨zl,zl0,zl1,zl2,zl3,zlf⟩:=id ST.z.facts4;go_wp2_with fail
    exact bodyPost_ret (v:=.tuple #[.agg #[.int .i64 st,.slice av l.length cv,.slice ad ds.length cd,.slice none 0 0],.int .i64 ((t0.size+1+nb:Nat):Int),.bool true]) (by simp [results,Tryz.results15,go_sem,rx,rx0,rx1,rx2,rx3]) rfl FIN.out
   case pos =>
    have hq2:(ds.length:Int)<40:=qO
    have i3:=fun w hw=>zaic 10 r w hrs hw
    obtain ⟨zl,zl0,zl1,zl2,zl3,zlf⟩:=id ST.z.facts4;go_wp2_with fail;refine (i3 _ (hw.below ST.u)).mono ?_;rintro e w3 ⟨t,r',m',rfl,HK,k1,k2,k3,k4,b3⟩;have ST3:=ST.below b3;clear ST b3 i3 zl zl0 zl1 zl2 zl3 zlf k4
    cases m' with
    | false =>
      clear k3;have HD:=Lib.hid (show rdBk s=((⟨⟨st,l⟩,ds,[]⟩,t0.size+1+nb),true) from HY.out ds nb (HR.out.out (zaww (HE.out.trans HK.out))));have FIN:=Lib.hid (ST3.done (t0.size+1+nb));rw [← HD.out] at FIN;clear HY HD;obtain ⟨rx,rx0,rx1,rx2,rx3,rxf⟩:=id ST3.x.facts4;obtain ⟨zl,zl0,zl1,zl2,zl3,zlf⟩:=id ST3.z.facts4;go_wp2_with fail
      exact bodyPost_ret (v:=.tuple #[.agg #[.int .i64 st,.slice av l.length cv,.slice ad ds.length cd,.slice none 0 0],.int .i64 ((t0.size+1+nb:Nat):Int),.bool true]) (by simp [results,Tryz.results15,go_sem,rx,rx0,rx1,rx2,rx3]) rfl FIN.out
    | true =>
      have hk3:=k3 rfl;have hline:ls.drop ds.length=t :: cutB 10 r':=HE.out.trans HK.out;obtain ⟨l1,l2,l3⟩:=zax4 hline;have HLN:=Lib.hid l1;have HEN:=Lib.hid l2;have HE3:=Lib.hid l3;clear hline l1 l2 l3 HE HK k3
      have i4:=fun W hw=>zah6 t W qO hw
      obtain ⟨⟨d,ok⟩,hd⟩:=qN (rdDdD t);obtain ⟨⟨⟨tst,tl⟩,ok2⟩,hd2'⟩:=qN (ddDo ⟨nst,nl⟩ d)
      have i5:=fun W h=>zag2 an cn nst nl d W hnl h
      rw [hd] at i4;rw [hd2'] at i5
      have htl:tl.length≤1048576:=by
       have:=zawo ⟨nst,nl⟩ d;rw [hd2'] at this;simp only at this
       omega
      have HNX:=Lib.hid (fun (h1:ok=true) (h2:ok2=true)=>HR.out.next hd40 HLN.out (d:=d) (s:=⟨tst,tl⟩) (by rw [HEN.out,hd,h1]) (by rw [hd2',h2]))
      have HSTOP:=Lib.hid (fun (h:¬ (ok=true∧ok2=true))=>HR.out.bad HLN.out (by rw [HEN.out,hd];simp only;rw [hd2'];exact h))
      rw [HEN.out] at HNX;clear HR HEN HLN hd hd2' hnl;obtain ⟨kd,ix,⟨x1,x2,x3,x4,x5⟩⟩:=d;simp only [Dd.val] at i5;go_wp2_with fail;refine (i4 _ (hw.below ST3.u)).mono ?_;rintro e W5 ⟨rfl,b5⟩;have ST5:=ST3.below b5;simp only;clear ST3 b5 i4;go_upto_region 12 with fail;obtain ⟨D,hD⟩:=qN (W5.heap.size);obtain ⟨V6,hV6⟩:=qM (W5.alloc (.cells #[.int .i64 kd,.int .i64 ix,.int .i64 x1,.int .i64 x2,.int .i64 x3,.int .i64 x4,.int .i64 x5] 82))
      have D6:At V6 D [.int .i64 kd,.int .i64 ix,.int .i64 x1,.int .i64 x2,.int .i64 x3,.int .i64 x4,.int .i64 x5]:=by rw [hV6];exact At.new _ _ _ hD.symm rfl
      have b6:Below W5.heap.size W5 V6:=by rw [hV6];exact qBl
      try rw [hD]
      rw [← hV6];have ST6:=ST5.below b6
      have hBD:B≤D:=by have:=ST5.b;omega
      clear ST5 b6 hV6 hD
      cases ok with
      | false =>
        clear HNX i5 D6
        have HD:=Lib.hid (show rdBk s=((⟨⟨st,l⟩,ds,[]⟩,t0.size+1+nb),true) from HY.out ds nb (HSTOP.out (fun h=>by cases h.1)))
        have FIN:=Lib.hid (ST6.done (t0.size+1+nb));rw [← HD.out] at FIN;clear HY HD;obtain ⟨rx,rx0,rx1,rx2,rx3,rxf⟩:=id ST6.x.facts4;obtain ⟨zl,zl0,zl1,zl2,zl3,zlf⟩:=id ST6.z.facts4;go_wp2_with fail
        exact bodyPost_ret (v:=.tuple #[.agg #[.int .i64 st,.slice av l.length cv,.slice ad ds.length cd,.slice none 0 0],.int .i64 ((t0.size+1+nb:Nat):Int),.bool true]) (by simp [results,Tryz.results15,go_sem,rx,rx0,rx1,rx2,rx3]) rfl FIN.out
      | true =>
        obtain ⟨d6,d60,d61,d62,d63,d64,d65,d66,-⟩:=id D6.facts7;obtain ⟨t6,t60,t61,-⟩:=id ST6.t.facts2;have i6:=i5 V6 ST6.on.kr;clear i5;go_wp2_with fail;refine i6.mono ?_;rintro e w7 ⟨v,rfl,on,b7⟩;obtain ⟨az,cz,rfl⟩:=on.sl;simp only at on ⊢;have ST7:=ST6.below b7;have D7:=D6.below b7;have hB1:=ST6.b
        have hdl:∀ k,(Value.slice ad ds.length cd).ownBlock=some k→k<V6.heap.size:=fun k hk=>(ST6.od.lt hk).2
        clear ST6 D6 d60 d61 d62 d63 d64 d65 d66 t6 t60 t61 i6;go_upto_region 14 with fail;obtain ⟨E,hE⟩:=qN (w7.heap.size);obtain ⟨V8,hV8⟩:=qM (w7.alloc (.cells #[.int .i64 tst,.slice az tl.length cz] 25))
        have E8:At V8 E [.int .i64 tst,.slice az tl.length cz]:=by rw [hV8];exact At.new _ _ _ hE.symm rfl
        have b8:Below w7.heap.size w7 V8:=by rw [hV8];exact qBl
        try rw [hE]
        rw [← hV8];have ST8:=ST7.below b8;have D8:=D7.below b8;have on8:=on.below b8;clear ST7 D7 on b8 b7 hV8 hE
        cases ok2 with
        | false =>
          clear HNX on8 D8 E8 hdl
          have HD:=Lib.hid (show rdBk s=((⟨⟨st,l⟩,ds,[]⟩,t0.size+1+nb),true) from HY.out ds nb (HSTOP.out (fun h=>by cases h.2)))
          have FIN:=Lib.hid (ST8.done (t0.size+1+nb));rw [← HD.out] at FIN;clear HY HD;obtain ⟨rx,rx0,rx1,rx2,rx3,rxf⟩:=id ST8.x.facts4;obtain ⟨zl,zl0,zl1,zl2,zl3,zlf⟩:=id ST8.z.facts4;go_wp2_with fail
          exact bodyPost_ret (v:=.tuple #[.agg #[.int .i64 st,.slice av l.length cv,.slice ad ds.length cd,.slice none 0 0],.int .i64 ((t0.size+1+nb:Nat):Int),.bool true]) (by simp [results,Tryz.results15,go_sem,rx,rx0,rx1,rx2,rx3]) rfl FIN.out
        | true =>
          have HN2:=Lib.hid (HNX.out (by trivial) (by trivial));clear HNX HSTOP;obtain ⟨t8,t80,t81,tf⟩:=id ST8.t.facts2;obtain ⟨g8,g80,g81,-⟩:=id E8.facts2;go_upto_region 16 with fail;have ST9:=ST8.put (nst':=tst) (an':=az) (cn':=cz) (nl':=tl) hB1 on8 hdl;have hTD:D≠T:=qO;have D9:=(D8.setOther (p:=⟨T,0,none⟩) hTD (.int .i64 tst)).setOther (p:=⟨T,1,none⟩) hTD (.slice az tl.length cz);obtain ⟨V9,hV9⟩:=qM ((V8.setCell ⟨T,0,none⟩ (.int .i64 tst)).setCell ⟨T,1,none⟩ (.slice az tl.length cz));rw [← hV9] at ST9 D9 ⊢;clear hV9 ST8 D8 on8 E8 t8 t80 t81 tf g8 g80 g81 hdl hB1;obtain ⟨zl,zl0,zl1,zl2,zl3,zlf⟩:=id ST9.z.facts4;obtain ⟨d9,d90,d91,d92,d93,d94,d95,d96,-⟩:=id D9.facts7;have hz9:=ST9.b;have hdl2:ds.length≤2097160:=qO
          have hZB:Z<B:=by have:=ST9.zt;omega
          go_wp2_with (at_builtin;refine zaaj ddI _ _ rfl rfl B (.slice ad ds.length cd) ds [⟨kd,ix,⟨x1,x2,x3,x4,x5⟩⟩] (some ⟨V9.heap.size,0,none⟩) 1 rfl (ST9.alloc _).od rfl (zax3 _ _ _) hdl2 qP (by simp;omega) ?_;rintro av9 cv9 w9 o9 g9 b9 r9;have b9':=((Below.refl B V9).alloc hz9 _).trans b9;have c9:=(b9'.cell (p:=⟨Z,2,none⟩) hZB).trans zl2;have f9:=(b9'.frozen (p:=⟨Z,2,none⟩) hZB).trans (zlf 2);clear zl zl0 zl1 zl2 zl3 zlf d9 d90 d91 d92 d93 d94 d95 d96)
          have HF:=(ST9.alloc _).more b9 g9 o9 (fun k e=>by
           rcases r9 with h|h
           · exact .inl (h▸e)
           · rw [h] at e;cases e;exact .inr (Nat.le_refl _))
          simp only [List.length_append,List.length_cons,List.length_nil,Nat.zero_add] at HF;go_roundw
          case rel=>exact ⟨ds ++ [⟨kd,ix,⟨x1,x2,x3,x4,x5⟩⟩],nb+t.size+1,tst,tl,az,cz,av9,cv9,r',by simp;omega,rfl,by omega,by simp;omega,by simp;omega,by rw [List.length_append];exact HE3,HN2,htl,HF⟩
          case measure=>simp [meaS];omega
end Go.Proofs.YthfoloefkfadlaaGreatDoor
