/- Walks: spec.Links, spec.TreesMany. -/
import Derived.Test.YthfoloefkfadlaaGreatDoorM2
import Derived.Test.YthfoloefkfadlaaGreatDoorM1
import Derived.Test.YthfoloefkfadlaaGreatDoorK2
import Derived.Test.YthfoloefkfadlaaGreatDoorT2
import Derived.Deep.DeepCutAuto
import Derived.Shelf.RegionOpenPlain
set_option linter.unusedSimpArgs false
set_option linter.unusedVariables false
set_option maxHeartbeats 4000000
set_option maxRecDepth 100000
namespace Go.Proofs.YthfoloefkfadlaaGreatDoor
open Go Go.RowKit Go.Sort
theorem zast {l:List Lg} {m q:Nat} (h:q<m):(linkM l m).take (q+1)=(linkM l m).take q ++ [rowF m fun j=>linkN l ((q:Int)+1) ((j:Int)+1)]:=by
 rw [zabc (by rw [zaar];exact h),zaul h];rfl
theorem zat7 {g:Lg} {a b:Int} (h1:g.frm≠a) (h2:g.to≠a):linkC g a b=0:=by
 unfold linkC atSt betw
 by_cases e:a=b
 · rw [if_pos e,if_neg qO]
 · rw [if_neg e,if_neg qO];rfl
theorem zaor {g:Lg} {a o:Int} (h:(g.frm=a∧g.to=o)∨(g.to=a∧g.frm=o)) (hne:a≠o) (b:Int):linkC g a b=if b=a then 1 else if b=o then -1 else 0:=by
 unfold linkC atSt betw
 by_cases e:a=b
 · rw [if_pos e,if_pos qO,if_pos e.symm]
 · rw [if_neg e,if_neg (Ne.symm e)]
   by_cases e2:b=o
   · rw [if_pos qO,if_pos e2]
   · rw [if_neg qO,if_neg e2];rfl
structure LkSt (w:World) (X B:Nat) (st:Int) (a:Option Addr) (l:List Lg) (c:Nat) (v:Value) (hd:List Hd) (L:List (List Int)) (wr:World):Prop where
 x:At wr X [.int .i64 st,.slice a l.length c]
 m:MatO wr B v hd L
 s:Legs wr a l
 z:B≤wr.heap.size
 u:Below w.heap.size w wr
 wx:w.heap.size≤X
 xb:X<B
 ls:∀ b o,a=some ⟨b,o,none⟩→0<l.length→b<X
section
variable {w wr w2:World} {X B:Nat} {st:Int} {a:Option Addr} {l:List Lg} {c:Nat} {v:Value} {hd:List Hd} {L:List (List Int)}
theorem LkSt.below (h:LkSt w X B st a l c v hd L wr) (hb:Below wr.heap.size wr w2):LkSt w X B st a l c v hd L w2 :=
 ⟨h.x.below hb,h.m.below hb,h.s.below hb,Nat.le_trans h.z hb.size,h.u.trans (hb.mono h.u.size),h.wx,h.xb,h.ls⟩
theorem LkSt.set (h:LkSt w X B st a l c v hd L wr) {G j:Nat} (hGm:∀ k,k<L.length→(nth hd k).val.ownBlock≠some G) (hGv:X<G∧v.ownBlock≠some G) (x:Int):LkSt w X B st a l c v hd L (wr.setCell ⟨G,j,none⟩ (.int .i64 x)) :=
 ⟨h.x.setOther (p:=⟨G,j,none⟩) (by show X≠G;have:=hGv.1;omega) _,
  ⟨h.m.own.setOther (p:=⟨G,j,none⟩) hGv.2 _,h.m.len,fun k hk=>(h.m.row k hk).setOther (p:=⟨G,j,none⟩) (hGm k hk) _,h.m.apart,h.m.inj⟩,
  by
   rcases h.s with e|e
   · exact .inl e
   · by_cases h0:0<l.length
     · exact KRd.setCell (.inr e) ⟨G,j,none⟩ _ fun b o e2=>by have:=h.ls b o e2 h0;have:=hGv.1;show b≠G;omega
     · exact .inl (List.eq_nil_of_length_eq_zero qO),
  by simpa [World.setCell] using h.z,h.u.setCell (p:=⟨G,j,none⟩) (by show w.heap.size≤G;have:=h.wx;have:=hGv.1;omega) _,h.wx,h.xb,h.ls⟩
theorem LkSt.drew (h:LkSt w X B st a l c v hd L wr):LkSt w X B st a l c v hd L wr.drew:=h.below ((Below.refl _ _).drew)
theorem LkSt.drewset (h:LkSt w X B st a l c v hd L wr) {G j:Nat} (hGm:∀ k,k<L.length→(nth hd k).val.ownBlock≠some G) (hGv:X<G∧v.ownBlock≠some G) (x:Int):LkSt w X B st a l c v hd L (wr.drew.setCell ⟨G,j,none⟩ (.int .i64 x)):=h.drew.set hGm hGv x
end
theorem zaj7 (a:Option Addr) (c:Nat) (st:Int) (l:List Lg) (w:World) (hv:svOk ⟨st,l⟩=true) (hs:Legs w a l):Calls Tryz.prog 143 #[.agg #[.int .i64 st,.slice a l.length c]] w (MatOut (linkM l (st.toNat - 1)) w):=by
 obtain ⟨v1,v2,v3⟩:=st_in hv;simp only at v1 v2 v3
 have i1:=fun w h=>zaaa a c st l w qO h
 rw [hv] at i1
 have HE:=Lib.hid (fun k hk=>zafc hv (k:=k) hk)
 have HLB:=Lib.hid (fun k (hk:k<l.length) (g1 g2 g3 g4 g5:Int) (hg:nth l k=⟨g1,g2,g3,g4,g5⟩) w=>by
  have h6:=zajt hv (zaaf hk);rw [hg] at h6;have:=zad4 ⟨g1,g2,g3,g4,g5⟩ w h6;simp only [Lg.val,legBack] at this
  exact this)
 obtain ⟨m,hm⟩:=qN (st.toNat - 1);rw [hm] at HE ⊢;have hst1:st=(m:Int)+1:=qO;have hm5:m≤5:=qO
 have hst:IntKind.i64.wrap (st - 1)=(m:Int):=by rw [hst1,show (m:Int)+1 - 1=m by omega];exact IntWalk.i64_in _ qO
 have HST:=Lib.hid hst1
 have mi:=fun W=>zacm m qO W
 have HL9:=Lib.hid v3;have H1:=Lib.hid i1
 have hls:∀ b o,a=some ⟨b,o,none⟩→0<l.length→b<w.heap.size:=fun b o e h0=>by rw [e] at hs;exact hs.lt h0
 clear hm hv hst1 v1 v2 v3 i1;have nn:(0:Int)≤(m:Int):=qO
 go_enter Tryz.func143,Tryz.ntmps143
 go_wp2_with fail;obtain ⟨X,hX⟩:=qN (w.heap.size);have hwX:w.heap.size≤X:=qO;rw [hX]
 go_loopw [3,4] (fun v i wr=>∃ (q:Nat) (hd:List Hd),q≤m∧i=.int .i64 ((q:Int)+1)∧LkSt w X (X+1) st a l c v hd ((linkM l m).take q) wr) (fun _ i _=>m+1 - (intOf i).toNat)
 case atStart =>
  have hm0:=MatO.lit (w.alloc (.cells #[.int .i64 st,.slice a l.length c] 25)) (X+1) (by simp;omega)
  have hsz:(w.alloc (.cells #[.int .i64 st,.slice a l.length c] 25)).heap.size=X+1:=by simp [hX]
  rw [hsz] at hm0
  exact ⟨0,[],by omega,rfl,⟨(At.new w #[.int .i64 st,.slice a l.length c] 25 hX.symm rfl).alloc _,by simpa using hm0,hs.below qBl,by simp;omega,qBl,hwX,by omega,fun b o e h0=>by have:=hls b o e h0;omega⟩⟩
 case round =>
  obtain ⟨q,hd,hq,rfl,H⟩:=hrel;obtain ⟨L,hL⟩:=qN ((linkM l m).take q)
  have hLl:L.length=q:=by rw [← hL];simp [zaar];omega
  rw [hL] at H;have HLQ:=Lib.hid hL;have HLL:=Lib.hid hLl;clear hL hLl;obtain ⟨av,cv,rfl⟩:=H.m.sl;obtain ⟨y,y0,y1,-⟩:=id H.x.facts2;have hss:=H.s
  by_cases hlt:q<m
  · have hc1:(q:Int)+1<st:=by have:=HST.out;omega
    have hc2:decide ((q:Int)+1<st)=true:=decide_eq_true hc1;have hLT:=Lib.hid (zast (l:=l) (m:=m) hlt)
    have hq1:IntKind.i64.wrap ((q:Int)+1 - 1)=(q:Int):=by rw [show (q:Int)+1 - 1=q by omega];exact IntWalk.i64_in _ qO
    have hq2:IntKind.i64.wrap (q:Int)=(q:Int):=IntWalk.i64_in _ qO;have hq3:(q:Int)<(m:Int):=qO;go_wp2_with fail;refine (H1.out _ hss).mono ?_;rintro e w1 ⟨rfl,b1⟩;replace H:=H.below b1;clear b1 y y0 y1 hss;obtain ⟨y,y0,y1,-⟩:=id H.x.facts2;obtain ⟨G,hG⟩:=qN (w1.heap.size);have RM:=OwnZ.made w1 G m qO qO;rw [hG] at RM;go_wp2_with fail;have hGz:=H.z
    have hGX:∀ k,k<L.length→(nth hd k).val.ownBlock≠some G:=fun k hk e=>by have:=((H.m.row k hk).lt e).2;omega
    have hGB:X<G∧(Value.slice av L.length cv).ownBlock≠some G:=⟨by omega,fun e=>by have:=(H.m.own.lt e).2;omega⟩
    go_loopw [6] (fun i wi=>∃ k:Nat,k≤l.length∧i=.int .i64 k∧OwnZ wi G (.slice (some ⟨G,0,none⟩) m m) (rowF m fun j:Nat=>linkN (l.take k) ((q:Int)+1) ((j:Int)+1))∧LkSt w X (X+1) st a l c (.slice av L.length cv) hd L wi) (fun i _=>l.length - (intOf i).toNat)
    case atStart=>exact ⟨0,by omega,rfl,by rw [zaeo] at RM;exact RM,H.below qBl⟩
    case round =>
     clear H RM y y0 y1 hGz;obtain ⟨k,hk,rfl,R,H⟩:=hrel;obtain ⟨y,y0,y1,-⟩:=id H.x.facts2;have hGw:=(R.lt (k:=G) rfl).2
     by_cases hlk:k<l.length
     · obtain ⟨b,off,ea,hbw,e1,e2,e3,e4,e5⟩:=Legs.at H.s hlk
       subst ea;obtain ⟨h1,h2,h3⟩:=HE.out k hlk
       have HT:=Lib.hid (fun i j=>zakf hlk i j)
       have HFL:=Lib.hid (fun j:Nat=>show -9≤linkN (l.take k) ((q:Int)+1) ((j:Int)+1)∧linkN (l.take k) ((q:Int)+1) ((j:Int)+1)≤9 by
        have:=zaft (l.take k) ((q:Int)+1) ((j:Int)+1);simp only [List.length_take] at this;have:=HL9.out
        omega)
       have HLBk:=Lib.hid (HLB.out k hlk);obtain ⟨⟨g1,g2,g3,g4,g5⟩,hg⟩:=qN (nth l k);have HLC:=Lib.hid (HLBk.out g1 g2 g3 g4 g5 hg);rw [hg] at e1 e2 e3 e4 e5 h1 h2 h3 HT;simp only at e1 e2 e3 e4 e5 h1 h2 h3;clear hg HLBk;have hk2:(k:Int)<(l.length:Int):=qO
       have hk9:(k:Int)≤9:=by have:=HL9.out;omega
       obtain ⟨Z,hZ⟩:=qN (wr.heap.size)
       have hZm:∀ k,k<L.length→(nth hd k).val.ownBlock≠some Z:=fun k hk e=>by have:=((H.m.row k hk).lt e).2;omega
       have hZv:X<Z∧(Value.slice av L.length cv).ownBlock≠some Z:=⟨by have:=H.z;omega,fun e=>by have:=(H.m.own.lt e).2;omega⟩
       have hZG:Z≠G:=qO;have hGZ:G≠Z:=Ne.symm hZG
       have hXG:G≠X:=by have:=hGB.1;omega
       have hXZ:Z≠X:=by have:=hZv.1;omega
       have mixed:Tryz.prog.follows Departure.mixedOrders=true:=by kernel_rfl
       obtain ⟨w3,hV⟩:=qM (wr.alloc (.cells #[.int .i64 g1,.int .i64 g2,.int .i64 g3,.int .i64 g4,.int .i64 g5] 75))
       have Z1:At w3 Z [.int .i64 g1,.int .i64 g2,.int .i64 g3,.int .i64 g4,.int .i64 g5]:=by rw [hV];exact At.new _ _ _ hZ.symm rfl
       have b3:Below wr.heap.size wr w3:=by rw [hV];exact qBl
       have H3:=H.below b3;have R3':=R.below b3
       by_cases hto:g2=(q:Int)+1
       · subst hto
         have hlink:=fun b=>zaor (g:=⟨g1,(q:Int)+1,g3,g4,g5⟩) (a:=(q:Int)+1) (o:=g1) (.inr ⟨rfl,rfl⟩) qO b
         have h1':=h1;have h3':=h3;go_upto_region 10 with fail
         try rw [hZ]
         rw [← hV];clear hV b3 y y0 y1 e1 e2 e3 e4 e5 hbw H R h1 h2 h3;obtain ⟨oz,oz0,oz1,oz2,oz3,oz4,ozf⟩:=id Z1.facts5;go_wp2_with fail;refine (HLC.out _).mono ?_;rintro e w4 ⟨rfl,b4⟩;replace H3:=H3.below b4;replace R3':=R3'.below b4;replace Z1:=Z1.below b4;clear b4 oz oz0 oz1 oz2 oz3 oz4 ozf;obtain ⟨oz,oz0,oz1,oz2,oz3,oz4,ozf⟩:=id Z1.facts5;go_upto_region 12 with fail;have H1b:=((((H3.set hZm hZv (j:=0) ((q:Int)+1)).set hZm hZv (j:=1) g1).set hZm hZv (j:=2) (-g3)).set hZm hZv (j:=3) (-g4)).set hZm hZv (j:=4) (-g5);have Z0:=Z1.sets5 (.int .i64 ((q:Int)+1)) (.int .i64 g1) (.int .i64 (-g3)) (.int .i64 (-g4)) (.int .i64 (-g5))
         have hso:∀ (W:World) (j:Nat) (x:Int),OwnZ W G (.slice (some ⟨G,0,none⟩) m m) (rowF m fun j:Nat=>linkN (l.take k) ((q:Int)+1) ((j:Int)+1))→OwnZ (W.setCell ⟨Z,j,none⟩ (.int .i64 x)) G (.slice (some ⟨G,0,none⟩) m m) (rowF m fun j:Nat=>linkN (l.take k) ((q:Int)+1) ((j:Int)+1)):=fun W j x h=>h.setOther (p:=⟨Z,j,none⟩) (fun e=>hGZ (by simpa [Value.ownBlock] using e)) _
         have R1:=hso _ 4 (-g5) (hso _ 3 (-g4) (hso _ 2 (-g3) (hso _ 1 g1 (hso _ 0 ((q:Int)+1) R3'))));clear oz oz0 oz1 oz2 oz3 oz4 ozf hso H3 R3' Z1;generalize hW5:((((w4.setCell ⟨Z,0,none⟩ (.int .i64 ((q:Int)+1))).setCell ⟨Z,1,none⟩ (.int .i64 g1)).setCell ⟨Z,2,none⟩ (.int .i64 (-g3))).setCell ⟨Z,3,none⟩ (.int .i64 (-g4))).setCell ⟨Z,4,none⟩ (.int .i64 (-g5))=w5 at *;clear hW5;obtain ⟨o,ho⟩:=qM (g1);subst ho;have hor:0≤o∧o≤(m:Int):=h1';have hoq:o≠(q:Int)+1:=h3';clear h1' h3';obtain ⟨oz,oz0,oz1,-,-,-,-⟩:=id Z0.facts5;have hor:0≤o∧o≤(m:Int):=qO;obtain ⟨g',hgg,-,hgB,hgw,hgc,hgf⟩:=OwnZ.form1 R1 (by rw [zaas];omega)
         cases hgg
         simp only [zaas] at hgc;have d1:=hgc q hlt;rw [zab4 _ hlt] at d1;have f1:=hgf q;have hx1:=HFL.out q;obtain ⟨x1,hxe1⟩:=qN (linkN (l.take k) ((q:Int)+1) ((q:Int)+1));rw [hxe1] at d1 hx1;have HX1:=Lib.hid hxe1;have hw1:IntKind.i64.wrap (x1+1)=x1+1:=IntWalk.i64_in _ qO;have hZG:Z≠G:=qO;have hGZ:G≠Z:=Ne.symm hZG;have R2:=OwnZ.put R1 (k:=q) (by rw [zaas];exact hlt) (x1+1);rw [zadn] at R2
         by_cases ho0:o=0
         · have ho1:decide ((0:Int)<o)=false:=decide_eq_false qO
           have ho2:¬ (0:Int)<o:=qO;have HOI:=Lib.hid ho0;have HLI:=Lib.hid hlink;clear hgc hgf hxe1 ho0 hlink R1;go_wp2_with fail;go_roundw
           case rel =>
            refine ⟨k+1,by omega,by go_num,?_,H1b.set hGX hGB (x1+1)⟩
            rw [zaa7 (G:=fun j=>if j=q then x1+1 else linkN (l.take k) ((q:Int)+1) ((j:Int)+1)) fun j hj=>by
             rw [HT.out,HLI.out];have h0:=HOI.out
             by_cases e:j=q
             · subst e;rw [if_pos rfl,if_pos rfl,HX1.out]
             · rw [if_neg e,if_neg qO,if_neg qO];omega]
            exact R2
           case measure=>simp [intOf];omega
         · obtain ⟨z,hz⟩:∃ z:Nat,o=(z:Int)+1:=⟨(o - 1).toNat,by omega⟩
           have hzm:z<m:=qO;have hzq:z≠q:=qO;have hqz:q≠z:=Ne.symm hzq;have hzm2:(z:Int)<(m:Int):=qO;have d2:=hgc z hzm;rw [zab4 _ hzm] at d2;have f2:=hgf z;have hx2:=HFL.out z;obtain ⟨x2,hxe2⟩:=qN (linkN (l.take k) ((q:Int)+1) ((z:Int)+1));rw [hxe2] at d2 hx2;have HX2:=Lib.hid hxe2;have hw2:IntKind.i64.wrap (x2 - 1)=x2 - 1:=IntWalk.i64_in _ qO
           have hw3:IntKind.i64.wrap (o - 1)=(z:Int):=by rw [hz,show (z:Int)+1 - 1=z by omega];exact IntWalk.i64_in _ qO
           have ho1:decide ((0:Int)<o)=true:=decide_eq_true qO;have ho2:(0:Int)<o:=qO;have R3:=OwnZ.put R2 (k:=z) (by rw [zaas];exact hzm) (x2 - 1);rw [zadn] at R3;have HOZ:=Lib.hid hz;have HLI:=Lib.hid hlink;clear hgc hgf hxe1 hxe2 hz ho0 hlink R1 R2;go_wp2_with fail
           go_region_o
           all_goals
            go_wp2_with fail;go_roundw
            case rel =>
             refine ⟨k+1,by omega,by go_num,?_,(H1b.set hGX hGB (x1+1)).drewset hGX hGB (x2 - 1)⟩
             rw [zaa7 (G:=fun j=>if j=z then x2 - 1 else if j=q then x1+1 else linkN (l.take k) ((q:Int)+1) ((j:Int)+1)) fun j hj=>by
              rw [HT.out,HLI.out];have h0:=HOZ.out
              by_cases e:j=z
              · subst e;rw [if_pos rfl,if_neg qO,if_pos qO,HX2.out];omega
              · rw [if_neg e]
                by_cases e2:j=q
                · subst e2;rw [if_pos rfl,if_pos rfl,HX1.out]
                · rw [if_neg e2,if_neg qO,if_neg qO];omega]
             exact R3
            case measure=>simp [intOf];omega
       · have hto1:(g2 == (q:Int)+1)=false:=by simpa using hto
         by_cases hfr:g1=(q:Int)+1
         · subst hfr
           have hlink:=fun b=>zaor (g:=⟨(q:Int)+1,g2,g3,g4,g5⟩) (a:=(q:Int)+1) (o:=g2) (.inl ⟨rfl,rfl⟩) qO b
           have h2':=h2;have h3':=Ne.symm h3;go_upto_region 10 with fail
           try rw [hZ]
           rw [← hV];clear hV b3 y y0 y1 e1 e2 e3 e4 e5 hbw H R h1 h2 h3;have H1b:=H3;have R1:=R3';have Z0:=Z1;obtain ⟨w5,hW5⟩:=qM (w3);subst hW5;clear H3 R3' Z1;obtain ⟨o,ho⟩:=qM (g2);subst ho;have hor:0≤o∧o≤(m:Int):=h2';have hoq:o≠(q:Int)+1:=h3';clear h2' h3' hto;obtain ⟨oz,oz0,oz1,-,-,-,-⟩:=id Z0.facts5;have hor:0≤o∧o≤(m:Int):=qO;obtain ⟨g',hgg,-,hgB,hgw,hgc,hgf⟩:=OwnZ.form1 R1 (by rw [zaas];omega)
           cases hgg
           simp only [zaas] at hgc;have d1:=hgc q hlt;rw [zab4 _ hlt] at d1;have f1:=hgf q;have hx1:=HFL.out q;obtain ⟨x1,hxe1⟩:=qN (linkN (l.take k) ((q:Int)+1) ((q:Int)+1));rw [hxe1] at d1 hx1;have HX1:=Lib.hid hxe1;have hw1:IntKind.i64.wrap (x1+1)=x1+1:=IntWalk.i64_in _ qO;have hZG:Z≠G:=qO;have hGZ:G≠Z:=Ne.symm hZG;have R2:=OwnZ.put R1 (k:=q) (by rw [zaas];exact hlt) (x1+1);rw [zadn] at R2
           by_cases ho0:o=0
           · have ho1:decide ((0:Int)<o)=false:=decide_eq_false qO
             have ho2:¬ (0:Int)<o:=qO;have HOI:=Lib.hid ho0;have HLI:=Lib.hid hlink;clear hgc hgf hxe1 ho0 hlink R1;go_wp2_with fail;go_roundw
             case rel =>
              refine ⟨k+1,by omega,by go_num,?_,H1b.set hGX hGB (x1+1)⟩
              rw [zaa7 (G:=fun j=>if j=q then x1+1 else linkN (l.take k) ((q:Int)+1) ((j:Int)+1)) fun j hj=>by
               rw [HT.out,HLI.out];have h0:=HOI.out
               by_cases e:j=q
               · subst e;rw [if_pos rfl,if_pos rfl,HX1.out]
               · rw [if_neg e,if_neg qO,if_neg qO];omega]
              exact R2
             case measure=>simp [intOf];omega
           · obtain ⟨z,hz⟩:∃ z:Nat,o=(z:Int)+1:=⟨(o - 1).toNat,by omega⟩
             have hzm:z<m:=qO;have hzq:z≠q:=qO;have hqz:q≠z:=Ne.symm hzq;have hzm2:(z:Int)<(m:Int):=qO;have d2:=hgc z hzm;rw [zab4 _ hzm] at d2;have f2:=hgf z;have hx2:=HFL.out z;obtain ⟨x2,hxe2⟩:=qN (linkN (l.take k) ((q:Int)+1) ((z:Int)+1));rw [hxe2] at d2 hx2;have HX2:=Lib.hid hxe2;have hw2:IntKind.i64.wrap (x2 - 1)=x2 - 1:=IntWalk.i64_in _ qO
             have hw3:IntKind.i64.wrap (o - 1)=(z:Int):=by rw [hz,show (z:Int)+1 - 1=z by omega];exact IntWalk.i64_in _ qO
             have ho1:decide ((0:Int)<o)=true:=decide_eq_true qO;have ho2:(0:Int)<o:=qO;have R3:=OwnZ.put R2 (k:=z) (by rw [zaas];exact hzm) (x2 - 1);rw [zadn] at R3;have HOZ:=Lib.hid hz;have HLI:=Lib.hid hlink;clear hgc hgf hxe1 hxe2 hz ho0 hlink R1 R2;go_wp2_with fail
             go_region_o
             all_goals
              go_wp2_with fail;go_roundw
              case rel =>
               refine ⟨k+1,by omega,by go_num,?_,(H1b.set hGX hGB (x1+1)).drewset hGX hGB (x2 - 1)⟩
               rw [zaa7 (G:=fun j=>if j=z then x2 - 1 else if j=q then x1+1 else linkN (l.take k) ((q:Int)+1) ((j:Int)+1)) fun j hj=>by
                rw [HT.out,HLI.out];have h0:=HOZ.out
                by_cases e:j=z
                · subst e;rw [if_pos rfl,if_neg qO,if_pos qO,HX2.out];omega
                · rw [if_neg e]
                  by_cases e2:j=q
                  · subst e2;rw [if_pos rfl,if_pos rfl,HX1.out]
                  · rw [if_neg e2,if_neg qO,if_neg qO];omega]
               exact R3
              case measure=>simp [intOf];omega
         · have hfr1:(g1 == (q:Int)+1)=false:=by simpa using hfr
           have hlink:=fun b=>zat7 (g:=⟨g1,g2,g3,g4,g5⟩) (a:=(q:Int)+1) (b:=b) hfr hto
           have HLI:=Lib.hid hlink;go_upto_region 10 with fail
           try rw [hZ]
           rw [← hV];clear hV b3 y y0 y1 e1 e2 e3 e4 e5 hbw H R h1 h2 h3 hfr hto hlink;obtain ⟨oz,oz0,oz1,oz2,oz3,oz4,ozf⟩:=id Z1.facts5;go_wp2_with fail;go_roundw
           case rel =>
            refine ⟨k+1,by omega,by go_num,?_,H3⟩
            rw [zaa7 (G:=fun j:Nat=>linkN (l.take k) ((q:Int)+1) ((j:Int)+1)) fun j hj=>by rw [HT.out,HLI.out];omega]
            exact R3'
           case measure=>simp [intOf];omega
     · obtain rfl:k=l.length:=by omega
       rw [List.take_length] at R
       go_wp2_with (at_builtin;refine zac0 hdI _ _ rfl rfl (X+1) (.slice av L.length cv) hd [⟨some ⟨G,0,none⟩,m,m⟩] (hd ++ [⟨some ⟨G,0,none⟩,m,m⟩]) rfl 1 (L.length+1) rfl (by simp [H.m.len]) (some ⟨wr.heap.size,0,none⟩) 1 rfl (H.m.own.alloc _) rfl (zaop wr ⟨some ⟨G,0,none⟩,m,m⟩ _) (by have:=H.m.len;have:=HLL.out;omega) qP (by have:=H.z;simp;omega) ?_;rintro av5 cv5 w5 o5 g5 b5 h5)
       go_roundw
       case rel =>
        have hal:Below wr.heap.size wr (wr.alloc (.cells #[Value.slice (some ⟨G,0,none⟩) m m] 150)):=qBl;have HA:=H.below hal
        have hXG':X+1≤G:=by have:=hGB.1;omega
        have hmo:=HA.m.more o5 g5 (((R.alloc _).mono hXG':OwnZ _ _ (Hd.val ⟨some ⟨G,0,none⟩,m,m⟩) _)) h5 fun x hx=>by
         have e:G=x:=by simpa [Hd.val,Value.ownBlock] using hx
         subst e
         exact ⟨hGB.2,fun j hj=>hGX j hj⟩
        have hz5:=b5.size
        refine ⟨q+1,hd ++ [⟨some ⟨G,0,none⟩,m,m⟩],by omega,by go_num,⟨HA.x.belowB b5 qO,?_,?_,by have:=HA.z;omega,HA.u.trans (b5.mono qO),H.wx,H.xb,H.ls⟩⟩
        · rw [hLT.out,HLQ.out];exact hmo
        · rcases HA.s with e|⟨b',o',e,hb',hc'⟩
          · exact .inl e
          · by_cases h0:0<l.length
            · have hbx:=H.ls b' o' e h0
              refine .inr ⟨b',o',e,by omega,fun j hj r u hu=>?_⟩
              have:=hc' j hj r u hu
              exact (b5.cell (p:=⟨b',_,none⟩) (by show b'<X+1;omega)).trans this
            · exact .inl (List.eq_nil_of_length_eq_zero qO)
       case measure=>simp [intOf];omega
  · obtain rfl:q=m:=by omega
    have hc1:¬ ((q:Int)+1<st):=by have:=HST.out;omega
    have hc2:decide ((q:Int)+1<st)=false:=decide_eq_false hc1
    have hall:L=linkM l q:=by
     rw [← HLQ.out];have:=List.take_length (l:=linkM l q)
     rwa [zaar] at this
    have HALL:=Lib.hid hall;clear hall;go_wp2_with fail;go_ret
    refine ⟨_,hd,rfl,?_,H.u⟩
    rw [← HALL.out]
    exact H.m.mono qO
set_option maxHeartbeats 1000000
theorem zanl (a:Option Addr) (c:Nat) (l:List Int) (w:World) (hl:l.length≤1048576) (hs:Zs w a l) :
 Calls Tryz.prog 213 #[.slice a l.length c] w fun e w'=>∃ v,e=.returned v∧OwnZ w' w.heap.size v l∧Below w.heap.size w w':=by
 have heq:∀ (w:World) (a:Option Addr) (n c n' c':Nat),(binOp .eql 150 (.slice a n c) (.slice none n' c')).run Tryz.prog w=.ok (.bool a.isNone) w:=fun w a n c n' c'=>Lib.run_eql_slice_nil w _ _ a n c n' c' Tryz.underlying150
 cases a with
 | none =>
   obtain rfl:=hs.empty
   go_enter Tryz.func213,Tryz.ntmps213
   go_wp2
   go_ret
   exact ⟨_,rfl,KOwn.nil,Below.refl _ _⟩
 | some ad =>
   go_enter Tryz.func213,Tryz.ntmps213
   go_wp2_with (at_builtin;refine zaaj intI _ _ rfl rfl w.heap.size _ [] l (some ad) c rfl (KOwn.lit w w.heap.size (Nat.le_refl _)) rfl (hs.below qBl) qP qO qP ?_;rintro av cv w1 o1 - b1 -)
   go_ret
   exact ⟨_,rfl,o1,Below.trans qBl b1⟩
def colM (k:Nat) (r:List Int) (M:List (List Int)) (q:Nat):List (List Int):=(List.range M.length).map fun i=>if i<q then (nth M i).set k (nth r i) else []
theorem zaos (k:Nat) (r:List Int) (M:List (List Int)) (q:Nat):(colM k r M q).length=M.length:=by simp [colM]
theorem zaot {k:Nat} {r:List Int} {M:List (List Int)} {q i:Nat} (h:i<M.length):nth (colM k r M q) i=if i<q then (nth M i).set k (nth r i) else []:=by simp [colM,nth,h]
theorem zat8 (k:Nat) (r:List Int) (M:List (List Int)):colM k r M 0=sqM M.length 0:=by
 unfold colM sqM
 exact List.map_congr_left fun i _=>by rw [if_neg qO,if_neg qO]
theorem zav6 (k:Nat) (r:List Int) (M:List (List Int)):colM k r M M.length=setCol k r M:=by
 unfold colM setCol
 exact List.map_congr_left fun i hi=>by rw [if_pos (List.mem_range.1 hi)]
theorem zat9 (k:Nat) (r:List Int) (M:List (List Int)) {q:Nat} (h:q<M.length):((colM k r M q).set q (nth M q)).set q ((nth ((colM k r M q).set q (nth M q)) q).set k (nth r q))=colM k r M (q+1):=by
 have hl:=zaos k r M q
 have e1:nth ((colM k r M q).set q (nth M q)) q=nth M q:=by rw [zaav qO,if_pos rfl]
 rw [e1]
 refine zabf (by simp [colM]) fun i hi=>?_
 have hi':i<M.length:=by simpa [colM] using hi
 rw [zaav (by simp [colM];exact hi'),zaav qO,zaot hi',zaot hi']
 by_cases e:q=i
 · subst e;rw [if_pos rfl,if_pos qO]
 · rw [if_neg e,if_neg e]
   by_cases e2:i<q
   · rw [if_pos e2,if_pos qO]
   · rw [if_neg e2,if_neg qO]
theorem zalm (a ra:Option Addr) (c rc k:Nat) (M:List (List Int)) (r:List Int) (w:World) (hM:MatV M) (hr:r.length=M.length) (hk:k<M.length) (hs:Mat w a M) (hz:Zs w ra r) :
 Calls Tryz.prog 189 #[.slice a M.length c,.int .i64 (k:Int),.slice ra M.length rc] w fun e w'=>∃ v hd,e=.returned v∧MatO w' w.heap.size v hd (setCol k r M)∧Below w.heap.size w w':=by
 have HM:=Lib.hid hM;have h5:=hM.len;obtain ⟨n,hn⟩:=qN (M.length);have HN:=Lib.hid hn;have HR:=Lib.hid hr;have HS0:=Lib.hid (zat8 k r M);have HSE:=Lib.hid (zav6 k r M)
 have HSN:=Lib.hid (fun q h=>zat9 k r M (q:=q) h)
 have HSL:=Lib.hid (zaos k r M);have mr:=zaj5 M.length qO w;rw [hn] at mr h5 hk HS0 HSE HSL ⊢;have nn:(0:Int)≤(n:Int):=qO;clear hM hn hr
 go_enter Tryz.func189,Tryz.ntmps189
 go_wp2_with fail
 go_loopw [15] (fun i wr=>∃ (q:Nat) (hd:List Hd),q≤n∧i=.int .i64 q∧MatO wr w.heap.size (.slice (some ⟨w.heap.size,0,none⟩) n n) hd (colM k r M q)∧Below w.heap.size w wr) (fun i _=>n - (intOf i).toNat)
 case atStart=>exact ⟨0,_,by omega,rfl,by rw [HS0.out];exact MatO.made w w.heap.size n (Nat.le_refl _) qO,qBl⟩
 case round =>
  obtain ⟨q,hd,hq,rfl,ho,hb⟩:=hrel
  by_cases hlt:q<n
  · have hq2:(q:Int)<(n:Int):=by omega
    obtain ⟨b,off,ra',rc',rfl,hbw,e1,hrc,hrc2,hzr⟩:=Mat.at (hs.below hb) (k:=q) (by rw [HN.out];exact hlt);have hl:=HM.out.row _ (zaaf (k:=q) (by rw [HN.out];exact hlt));rw [HN.out] at hl;obtain ⟨rb,ro,rfl,hrbw,e2⟩:=Zs.at hz (k:=q) (by rw [HR.out,HN.out];exact hlt);obtain ⟨x,hx⟩:=qN (nth r q);have HX:=Lib.hid hx;rw [hx] at e2;have hnx:=HSN.out q (by rw [HN.out];exact hlt);rw [hx] at hnx;have HNX:=Lib.hid hnx;clear hnx;obtain ⟨row,hrow⟩:=qN (nth M q);rw [hrow] at e1 hzr hl hrc HNX
    have i1:=fun w h=>zanl ra' rc' row w qO h
    rw [hl] at i1 e1;have HL:=Lib.hid hl;obtain ⟨L,hL⟩:=qN (colM k r M q);rw [hL] at ho HNX
    have HLL:Hid (L.length=n):=by show _=_;rw [← hL,HSL.out q]
    obtain ⟨p,cp,e,hBp,hpw,hcp,hfp⟩:=ho.at (k:=q) (by rw [HLL.out];exact hlt);rw [HLL.out] at e
    cases e
    have hcl:=ho.len;clear hx hrow hl hL hrc;go_wp2_with fail;refine (i1 _ hzr).mono ?_;rintro e w1 ⟨v,rfl,o1,b1⟩;obtain ⟨av,cv,rfl⟩:=o1.sl;rw [HL.out] at o1 ⊢;obtain ⟨g,rfl,-,hgB,hgw,hgc,hgf⟩:=OwnZ.form1 o1 (by rw [HL.out];omega);have hsz:=hb.size;have e2':=(b1.cell (p:=⟨rb,ro+q,none⟩) (Nat.lt_of_lt_of_le hrbw hsz)).trans ((hb.cell (p:=⟨rb,ro+q,none⟩) hrbw).trans e2);have ho1:=ho.below b1;have hcp1:=(b1.cell (p:=⟨w.heap.size,q,none⟩) hpw).trans hcp;have hfp1:=(b1.frozen (p:=⟨w.heap.size,q,none⟩) hpw).trans hfp;have hgk:=hgc k (by rw [HL.out];exact hk);have hgfk:=hgf k;have hne:w.heap.size≠g:=qO;have hne2:g≠w.heap.size:=Ne.symm hne;have hnr:rb≠w.heap.size:=qO;have hnr2:w.heap.size≠rb:=Ne.symm hnr;clear e1 e2 hcp hfp hgc hgf
    have mixed:Tryz.prog.follows Departure.mixedOrders=true:=by kernel_rfl
    have hkn:(k:Int)<(n:Int):=qO;go_wp2_with fail
    go_region_o
    all_goals
     go_wp2_with fail;go_roundw
     case rel =>
      have hoP:=ho1.putRow (k:=q) (p:=w.heap.size) (cp:=n) (by rw [HLL.out];exact hlt) (by rw [HLL.out]) (x:=⟨some ⟨g,0,none⟩,n,cv⟩) (r:=row) (o1.mono hsz) (fun b' h=>by
       have e:g=b':=by simpa [Hd.val,Value.ownBlock] using h
       subst e
       exact ⟨fun e2=>hne (by simpa [Value.ownBlock] using e2),fun j hj _ e2=>by have:=((ho.row j hj).lt e2).2;omega⟩)
      have hoQ:=hoP.put (k:=q) (j:=k) (g:=g) (n:=n) (c:=cv) (by rw [List.length_set,HLL.out];exact hlt) (by rw [zaav (by rw [HLL.out];exact hlt),if_pos rfl,HL.out];exact hk) (by rw [zaav (by rw [hcl,HLL.out];exact hlt),if_pos rfl]) x;rw [HNX.out] at hoQ
      exact ⟨q+1,_,by omega,by go_num,hoQ.below (Below.refl _ _).drew,(((hb.trans (b1.mono hsz)).setCell (p:=⟨w.heap.size,q,none⟩) (Nat.le_refl _) _).setCell (p:=⟨g,k,none⟩) (by show w.heap.size≤g;omega) _).drew⟩
     case measure=>simp [intOf];omega
  · obtain rfl:q=n:=by omega
    rw [HSE.out] at ho;go_wp2_with fail;go_ret
    exact ⟨_,hd,rfl,ho,hb⟩
theorem zaua (a ra:Option Addr) (c rc:Nat) (M:List (List Int)) (r:List Int) (w:World) (hM:MatV M) (hr:r.length=M.length) (hE:∀ x ∈ r,-999≤x∧x≤999) (hD:detL M≠0) (hs:Mat w a M) (hz:Zs w ra r) :
 Calls Tryz.prog 154 #[.slice a M.length c,.slice ra M.length rc] w fun e w'=>∃ g,e=.returned (.tuple #[.slice (some ⟨g,0,none⟩) M.length M.length,.int .i64 (detL M)])∧OwnZ w' w.heap.size (.slice (some ⟨g,0,none⟩) M.length M.length) (solveL M r)∧Below w.heap.size w w':=by
 have h5:=hM.len
 have i1:=fun w h=>zafo a c M w hM h
 have i2:=fun w h=>zagg ra M.length rc r w hr qO hE h
 have i3:=fun w h=>zalk a c M w hM h
 have i4:=fun k hk w h1 h2=>zalm a ra c rc k M r w hM hr hk h1 h2
 have i5:=fun k a c w h=>zalk a c (setCol k r M) w (hM.setCol hr hE k) h
 simp only [zabg] at i5
 have mi:=fun W=>zacm M.length qO W
 have HS:Hid (solveL M r=rowF M.length fun k=>detL (setCol k r M)):=rfl
 obtain ⟨n,hn⟩:=qN (M.length)
 have HL:=Lib.hid (fun k=>zabg k r M)
 have hDb:(detL M == 0)=false:=by simpa using hD
 obtain ⟨d,hd⟩:=qN (detL M);rw [hn] at i1 i2 i3 i4 i5 mi HS h5 HL ⊢;rw [hd] at i3 hD hDb ⊢;have nn:(0:Int)≤(n:Int):=qO;clear hn hd hM hr hE
 go_enter Tryz.func154,Tryz.ntmps154
 go_wp2_with fail;refine (i1 _ hs).mono ?_;rintro e w1 ⟨rfl,b1⟩;go_wp2_with fail;refine (i2 _ (hz.below b1)).mono ?_;rintro e w2 ⟨rfl,b2⟩;have hb:=b1.trans (b2.mono b1.size);clear b1 b2;go_wp2_with fail;refine (i3 _ (hs.below hb)).mono ?_;rintro e w3 ⟨rfl,b3⟩;replace hb:=hb.trans (b3.mono hb.size);clear b3 i1 i2 i3;have hsz:=hb.size;go_wp2_with fail;obtain ⟨G,hG⟩:=qN (w3.heap.size);have h0:=OwnZ.made w3 G n qO qO;rw [hG] at h0 ⊢
 rw [zaeo,zaa7 (G:=fun k=>if k<0 then detL (setCol k r M) else 0) fun j _=>by rw [if_neg qO]] at h0
 go_loopw [33] (fun i wr=>∃ q:Nat,q≤n∧i=.int .i64 q∧OwnZ wr G (.slice (some ⟨G,0,none⟩) n n) (rowF n fun k=>if k<q then detL (setCol k r M) else 0)∧Below w.heap.size w wr) (fun i _=>n - (intOf i).toNat)
 case atStart=>exact ⟨0,by omega,rfl,h0,qBl⟩
 case round =>
  clear h0 hb;obtain ⟨q,hq,rfl,ho,hb⟩:=hrel
  by_cases hlt:q<n
  · have hq2:(q:Int)<(n:Int):=by omega
    have hGw:=(ho.lt (k:=G) rfl).2;have i4q:=i4 q hlt;have i5q:=i5 q;go_wp2_with fail;refine (i4q _ (hs.below hb) (hz.below hb)).mono ?_;rintro e w4 ⟨v,hd,rfl,o4,b4⟩;obtain ⟨av,cv,rfl⟩:=o4.sl;rw [HL.out q];go_wp2_with fail;refine (i5q _ _ _ o4.rd).mono ?_;rintro e w5 ⟨rfl,b5⟩;have ho5:=(ho.below b4).below b5;have hb5:Below w.heap.size w w5:=hb.trans ((b4.trans (b5.mono b4.size)).mono hb.size);clear b4 b5 o4;obtain ⟨g,hgg,-,hgB,hgw,hgc,hgf⟩:=OwnZ.form1 ho5 (by rw [zaas];omega)
    cases hgg
    have c1:=hgc q (by rw [zaas];exact hlt);have f1:=hgf q
    obtain ⟨x,hx⟩:=qN (nth (rowF n fun k=>if k<q then detL (setCol k r M) else 0) q)
    rw [hx] at c1;have h2:=OwnZ.put ho5 (k:=q) (by rw [zaas];exact hlt) (detL (setCol q r M))
    rw [zadn,zaa7 (G:=fun k=>if k<q+1 then detL (setCol k r M) else 0) fun j _=>by
        by_cases e:j=q
        · rw [if_pos e,if_pos qO,e]
        · rw [if_neg e]
          by_cases e2:j<q
          · rw [if_pos e2,if_pos qO]
          · rw [if_neg e2,if_neg qO]] at h2
    obtain ⟨d2,hd2⟩:=qN (detL (setCol q r M));rw [hd2] at h2 ⊢;clear hgc hgf hx hd2 ho ho5 i4q i5q;go_wp2_with fail;go_roundw
    case rel=>exact ⟨q+1,by omega,by go_num,h2,hb5.setCell (p:=⟨G,q,none⟩) (by show w.heap.size≤G;omega) _⟩
    case measure=>simp [intOf];omega
  · obtain rfl:q=n:=by omega
    rw [zaa7 (G:=fun k=>detL (setCol k r M)) fun j hj=>by rw [if_pos hj],← HS.out] at ho
    go_wp2_with fail;refine bodyPost_ret (v:=.tuple #[.slice (some ⟨G,0,none⟩) q q,.int .i64 d]) (by simp [results,Tryz.results154,go_sem]) rfl ?_
    exact ⟨G,rfl,ho.mono qO,hb⟩
set_option maxHeartbeats 2000000
theorem zaq1 {k:Nat} {r:List Int} {M:List (List Int)} {q:Nat} (h:q<M.length):(setCol k r M).take (q+1)=(setCol k r M).take q ++ [(nth M q).set k (nth r q)]:=by
 rw [zabc (by rw [zabg];exact h),zas3 h]
theorem zaou (a ra:Option Addr) (c rc k:Nat) (M:List (List Int)) (r:List Int) (w:World) (hM:MatV M) (hr:r.length=M.length) (hk:k<M.length) (hs:Mat w a M) (hz:Zs w ra r) :
 Calls Tryz.prog 174 #[.slice a M.length c,.int .i64 (k:Int),.slice ra M.length rc] w fun e w'=>∃ v hd,e=.returned v∧MatO w' w.heap.size v hd (setCol k r M)∧Below w.heap.size w w':=by
 have HM:=Lib.hid hM;have h5:=hM.len;obtain ⟨n,hn⟩:=qN (M.length);have HN:=Lib.hid hn;have HR:=Lib.hid hr
 have HST:=Lib.hid (fun q h=>zaq1 (k:=k) (r:=r) (M:=M) (q:=q) h)
 have HSE:=Lib.hid (show (setCol k r M).take M.length=setCol k r M by have:=List.take_length (l:=setCol k r M);rwa [zabg] at this);rw [hn] at h5 hk HSE ⊢;have nn:(0:Int)≤(n:Int):=qO;have hkn:(k:Int)<(n:Int):=qO;clear hM hn hr
 go_enter Tryz.func174,Tryz.ntmps174
 go_wp2_with fail
 go_loopw [7,8] (fun v i wr=>∃ (q:Nat) (hd:List Hd),q≤n∧i=.int .i64 q∧MatO wr w.heap.size v hd ((setCol k r M).take q)∧Below w.heap.size w wr) (fun _ i _=>n - (intOf i).toNat)
 case atStart=>exact ⟨0,[],by omega,rfl,by simpa using MatO.lit w w.heap.size (Nat.le_refl _),qBl⟩
 case round =>
  obtain ⟨q,hd,hq,rfl,ho,hb⟩:=hrel
  by_cases hlt:q<n
  · have hq2:(q:Int)<(n:Int):=by omega
    obtain ⟨b,off,ra',rc',rfl,hbw,e1,hrc,hrc2,hzr⟩:=Mat.at (hs.below hb) (k:=q) (by rw [HN.out];exact hlt);have hl:=HM.out.row _ (zaaf (k:=q) (by rw [HN.out];exact hlt));rw [HN.out] at hl;obtain ⟨rb,ro,rfl,hrbw,e2⟩:=Zs.at hz (k:=q) (by rw [HR.out,HN.out];exact hlt);obtain ⟨x,hx⟩:=qN (nth r q);rw [hx] at e2;have hnx:=HST.out q (by rw [HN.out];exact hlt);rw [hx] at hnx;obtain ⟨row,hrow⟩:=qN (nth M q);rw [hrow] at e1 hzr hl hrc hnx;rw [hl] at e1;have HL:=Lib.hid hl;obtain ⟨L,hL⟩:=qN ((setCol k r M).take q)
    have hLL:L.length=q:=by rw [← hL,List.length_take,zabg,HN.out];omega
    rw [hL] at ho hnx;have HNX:=Lib.hid hnx;have HLL:=Lib.hid hLL;obtain ⟨av,cv,rfl⟩:=ho.sl;have hsz:=hb.size;clear hx hrow hl hL hrc hnx hLL;obtain ⟨gb,go,rfl,-,-⟩:=Zs.at hzr (k:=k) (by rw [HL.out];exact hk);go_upto_region 6 with (at_builtin;refine zac0 intI _ _ rfl rfl wr.heap.size _ [] row row rfl n n HL.out HL.out (some ⟨gb,go,none⟩) rc' rfl (KOwn.lit wr wr.heap.size (Nat.le_refl _)) rfl (hzr.below qBl) qP (by have:=HL.out;omega) qP ?_;rintro av5 cv5 w5 o5 - b5 -);obtain ⟨g,e5,-,hgB,hgw,hgc,hgf⟩:=OwnZ.form1 o5 (by rw [HL.out];omega);subst e5;have e2':=(b5.cell (p:=⟨rb,ro+q,none⟩) (by show rb<wr.heap.size;omega)).trans ((((Below.refl wr.heap.size wr).alloc (Nat.le_refl _) (.cells #[] 3)).cell (p:=⟨rb,ro+q,none⟩) (by show rb<wr.heap.size;omega)).trans ((hb.cell (p:=⟨rb,ro+q,none⟩) hrbw).trans e2));replace b5:Below wr.heap.size wr w5:=Below.trans qBl b5;have hgk:=hgc k (by rw [HL.out];exact hk);have hgfk:=hgf k;have hrg:rb≠g:=qO;have hgr:g≠rb:=Ne.symm hrg;clear hgc hgf e1 e2;have o6:=OwnZ.put o5 (k:=k) (by rw [HL.out];exact hk) x;have b6:Below wr.heap.size wr (w5.setCell ⟨g,k,none⟩ (.int .i64 x)):=b5.setCell (p:=⟨g,k,none⟩) hgB _;have ho6:=ho.below b6
    have hrl:(row.set k x).length=n:=by rw [List.length_set];exact HL.out
    have HRL:=Lib.hid hrl;clear hrl;go_upto_region 7 with fail;generalize hW6:w5.setCell ⟨g,k,none⟩ (.int .i64 x)=w6 at *;have hz6:=b6.size;have hol:=ho6.len;clear hW6
    go_wp2_with (at_builtin;refine zac0 hdI _ _ rfl rfl w.heap.size (.slice av L.length cv) hd [⟨some ⟨g,0,none⟩,n,cv5⟩] (hd ++ [⟨some ⟨g,0,none⟩,n,cv5⟩]) rfl 1 (L.length+1) rfl (by simp [hol]) (some ⟨w6.heap.size,0,none⟩) 1 rfl (ho6.own.alloc _) rfl (zaop w6 ⟨some ⟨g,0,none⟩,n,cv5⟩ _) (by have:=HLL.out;omega) qP (by simp;omega) ?_;rintro av7 cv7 w7 o7 g7 b7 h7)
    go_roundw
    case rel =>
     have hal:Below w6.heap.size w6 (w6.alloc (.cells #[Value.slice (some ⟨g,0,none⟩) n cv5] 150)):=qBl
     have hmo:=(ho6.below hal).more o7 g7 (((o6.alloc _).mono hsz:OwnZ _ _ (Hd.val ⟨some ⟨g,0,none⟩,n,cv5⟩) _)) h7 fun y hy=>by
      have e:g=y:=by simpa [Hd.val,Value.ownBlock] using hy
      subst e
      exact ⟨fun e=>by have:=(ho.own.lt e).2;omega,fun j hj e=>by have:=((ho.row j hj).lt e).2;omega⟩
     rw [← HNX.out] at hmo
     exact ⟨q+1,_,by omega,by go_num,hmo,hb.trans ((b6.mono hsz).trans ((hal.mono qO).trans b7))⟩
    case measure=>simp [intOf];omega
  · obtain rfl:q=n:=by omega
    rw [HSE.out] at ho;go_wp2_with fail;go_ret
    exact ⟨_,hd,rfl,ho,hb⟩
theorem zaq2 {M:List (List Int)} {r:List Int} {q:Nat} (h:q<M.length):(solveL M r).take (q+1)=(solveL M r).take q ++ [detL (setCol q r M)]:=by
 rw [zabc (by rw [zadz];exact h),zakg h]
theorem zasu (a ra:Option Addr) (c rc:Nat) (M:List (List Int)) (r:List Int) (w:World) (hM:MatV M) (hr:r.length=M.length) (hE:∀ x ∈ r,-999≤x∧x≤999) (hD:detL M≠0) (hs:Mat w a M) (hz:Zs w ra r) :
 Calls Tryz.prog 144 #[.slice a M.length c,.slice ra M.length rc] w fun e w'=>∃ av cv,e=.returned (.tuple #[.slice av M.length cv,.int .i64 (detL M)])∧OwnZ w' w.heap.size (.slice av M.length cv) (solveL M r)∧Below w.heap.size w w':=by
 have h5:=hM.len
 have i3:=fun w h=>zaje a c M w hM h
 have i4:=fun k hk w h1 h2=>zaou a ra c rc k M r w hM hr hk h1 h2
 have i5:=fun k a c w h=>zaje a c (setCol k r M) w (hM.setCol hr hE k) h
 simp only [zabg] at i5;have HSE:=Lib.hid (show (solveL M r).take M.length=solveL M r by have:=List.take_length (l:=solveL M r);rwa [zadz] at this)
 have HST:=Lib.hid (fun q h=>zaq2 (M:=M) (r:=r) (q:=q) h)
 have HSL:=Lib.hid (zadz M r);obtain ⟨n,hn⟩:=qN (M.length)
 have HL:=Lib.hid (fun k=>zabg k r M)
 have HR:=Lib.hid hr;have HE:=Lib.hid hE
 have hDb:(detL M == 0)=false:=by simpa using hD
 obtain ⟨d,hd⟩:=qN (detL M);rw [hn] at i3 i4 i5 h5 HL HSE HST HSL HR ⊢;rw [hd] at i3 hD hDb ⊢;have nn:(0:Int)≤(n:Int):=qO;clear hn hd hM hr hE
 go_enter Tryz.func144,Tryz.ntmps144
 go_wp2_with fail;refine (i3 _ (hs.below qBl)).mono ?_;rintro e w3 ⟨rfl,b3⟩;obtain ⟨G,hG⟩:=qN (w.heap.size)
 have o3:OwnZ w3 G (.slice (some ⟨G,0,none⟩) 0 0) []:=by
  have:=KOwn.lit (K:=intK) (T:=3) w G qO;rw [hG] at this
  exact this.below b3
 have hb:Below w.heap.size w w3:=Below.trans qBl (b3.mono qP);rw [hG];clear b3 i3;go_wp2_with fail
 go_loopw [8] (fun i w4=>∃ q:Nat,q≤n∧i=.int .i64 q∧Below w3.heap.size w3 w4) (fun i _=>n - (intOf i).toNat)
 case atStart=>exact ⟨0,by omega,rfl,qBl⟩
 case round =>
  obtain ⟨q,hq,rfl,hb2⟩:=hrel
  by_cases hlt:q<n
  · obtain ⟨gb,go,rfl,hgb,e3⟩:=Zs.at ((hz.below hb).below hb2) (k:=q) (by rw [HR.out];exact hlt)
    have hx:=HE.out _ (zaaf (k:=q) (by rw [HR.out];exact hlt));obtain ⟨x,hxe⟩:=qN (nth r q);rw [hxe] at e3 hx;clear hxe
    have hin:inB x (-999) 999=true:=by simp only [inB,Bool.and_eq_true,decide_eq_true_eq];omega
    have hq2:(q:Int)<(n:Int):=qO;go_wp2_with fail;refine (zaac x (-999) 999 _).mono ?_;rintro e w5 ⟨rfl,rfl⟩;rw [hin];go_wp2_with fail;go_roundw
    case rel=>exact ⟨q+1,by omega,by go_num,qBl⟩
    case measure=>simp [intOf];omega
  · obtain rfl:q=n:=by omega
    replace o3:=o3.below hb2;replace hb:=hb.trans (hb2.mono hb.size);clear hb2;go_wp2_with fail;have hwG:w.heap.size≤G:=qO
    go_loopw [6,9] (fun v i w6=>∃ (p:Nat),p≤q∧i=.int .i64 p∧OwnZ w6 G v ((solveL M r).take p)∧Below w.heap.size w w6) (fun _ i _=>q - (intOf i).toNat)
    case atStart=>exact ⟨0,by omega,rfl,o3,hb⟩
    case round =>
     clear o3 hb;obtain ⟨p,hp,rfl,o3,hb⟩:=hrel;obtain ⟨av,cv,rfl⟩:=o3.sl
     by_cases hlt2:p<q
     · have hq2:(p:Int)<(q:Int):=by omega
       have i4p:=i4 p hlt2;have i5p:=i5 p;have HT:=Lib.hid (HST.out p hlt2);obtain ⟨L,hL⟩:=qN ((solveL M r).take p)
       have hLl:L.length=p:=by rw [← hL,List.length_take,HSL.out];omega
       rw [hL] at o3 HT ⊢;have HLL:=Lib.hid hLl;clear hL hLl;go_wp2_with fail;refine (i4p _ (hs.below hb) (hz.below hb)).mono ?_;rintro e w7 ⟨v,hd,rfl,o4,b4⟩;obtain ⟨av2,cv2,rfl⟩:=o4.sl;rw [HL.out p];go_wp2_with fail;refine (i5p _ _ _ o4.rd).mono ?_;rintro e w8 ⟨rfl,b5⟩;have ho5:=(o3.below b4).below b5;have hb5:Below w.heap.size w w8:=hb.trans ((b4.trans (b5.mono b4.size)).mono hb.size)
       have hGw:G≤w8.heap.size:=by have:=hb5.size;omega
       clear b4 b5 o4 i4p i5p o3 hb;obtain ⟨d2,hd2⟩:=qN (detL (setCol p r M));rw [hd2] at HT ⊢;clear hd2
       go_wp2_with (at_builtin;refine zac0 intI _ _ rfl rfl G _ L [d2] (L ++ [d2]) rfl 1 (L.length+1) rfl qP (some ⟨w8.heap.size,0,none⟩) 1 rfl (ho5.alloc _) rfl (zagi w8 d2 _) (by have:=HLL.out;omega) qP (by simp;omega) ?_;rintro av7 cv7 w9 o7 - b7 -)
       go_roundw
       case rel=>exact ⟨p+1,by omega,by go_num,by rw [HT.out];exact o7,(hb5.alloc hb5.size _).trans (b7.mono qO)⟩
       case measure=>simp [intOf];omega
     · obtain rfl:p=q:=by omega
       rw [HSE.out] at o3 ⊢;rw [HSL.out];go_wp2_with fail;refine bodyPost_ret (v:=.tuple #[.slice av p cv,.int .i64 d]) (by simp [results,Tryz.results144,go_sem]) rfl ?_;rw [HSL.out] at o3
       exact ⟨av,cv,rfl,o3.mono qO,hb⟩
end Go.Proofs.YthfoloefkfadlaaGreatDoor
