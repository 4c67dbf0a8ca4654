/- Walks: impl.StepsOk, StepsWay, TreePlace. -/
import Derived.Test.YthfoloefkfadlaaGreatDoorM7
import Derived.Test.YthfoloefkfadlaaGreatDoorF3
import Derived.Test.YthfoloefkfadlaaGreatDoorT2
set_option linter.unusedSimpArgs false
set_option linter.unusedVariables false
set_option maxHeartbeats 1000000
set_option maxRecDepth 100000
namespace Go.Proofs.YthfoloefkfadlaaGreatDoor
open Go Go.RowKit Go.Sort
theorem zae4 (x y z u v t:Int) (w:World) (hx : -1000000000000≤x∧x≤1000000000000) (hy : -1000000000000≤y∧y≤1000000000000) (hz : -1000000000000≤z∧z≤1000000000000) (hu : -1000000000000≤u∧u≤1000000000000) (hv : -1000000000000≤v∧v≤1000000000000) (ht : -1000000000000≤t∧t≤1000000000000) :
 Calls Tryz.prog 185 #[way3 x y z,way3 u v t] w (WyOut (x+u) (y+v) (z+t) w):=by
 have w1:IntKind.i64.wrap (x+u)=x+u:=by rw [IntKind.wrap_i64];omega
 have w2:IntKind.i64.wrap (y+v)=y+v:=by rw [IntKind.wrap_i64];omega
 have w3:IntKind.i64.wrap (z+t)=z+t:=by rw [IntKind.wrap_i64];omega
 go_enter Tryz.func185,Tryz.ntmps185
 go_wp2
 refine bodyPost_ret (v:=way3 (x+u) (y+v) (z+t)) (by simp [results,Tryz.results185,go_sem]) rfl ⟨rfl,qBl⟩
theorem zats (x y z:Int) (w:World) (hx : -1000000000000≤x∧x≤1000000000000) (hy : -1000000000000≤y∧y≤1000000000000) (hz : -1000000000000≤z∧z≤1000000000000) :
 Calls Tryz.prog 186 #[way3 x y z,.int .i64 (-1)] w (WyOut (-x) (-y) (-z) w):=by
 have w1:IntKind.i64.wrap (-x) = -x:=by rw [IntKind.wrap_i64];omega
 have w2:IntKind.i64.wrap (-y) = -y:=by rw [IntKind.wrap_i64];omega
 have w3:IntKind.i64.wrap (-z) = -z:=by rw [IntKind.wrap_i64];omega
 have q1:IntKind.i64.wrap (x * -1) = -x:=by rw [Int.mul_neg,Int.mul_one];exact w1
 have q2:IntKind.i64.wrap (y * -1) = -y:=by rw [Int.mul_neg,Int.mul_one];exact w2
 have q3:IntKind.i64.wrap (z * -1) = -z:=by rw [Int.mul_neg,Int.mul_one];exact w3
 go_enter Tryz.func186,Tryz.ntmps186
 go_wp2
 refine bodyPost_ret (v:=way3 (-x) (-y) (-z)) (by simp [results,Tryz.results186,go_sem]) rfl ⟨rfl,qBl⟩
theorem zaqk (a sa:Option Addr) (c sc:Nat) (n:Int) (l:List Lg) (use:List Nat) (frm tgt:Int) (st:List Stp) (w:World) (hsl:st.length≤1000) (hv:svOk ⟨n,l⟩=true) (hu:∀ i ∈ use,i<l.length) (hW:Chn l use frm tgt st) (hs:Legs w a l) (hz:Stps w sa st) :
 Calls Tryz.prog 225 #[.agg #[.int .i64 n,.slice a l.length c],.slice sa st.length sc] w fun e w'=>e=.returned (.bool true)∧Below w.heap.size w w':=by
 obtain ⟨v1,v2,v3⟩:=st_in hv;simp only at v1 v2 v3
 have i1:=fun w h=>zaab a c n l w qO h
 rw [hv] at i1;have HW:=Lib.hid hW.at;have HU:=Lib.hid hu
 have I3:=Lib.hid (fun (s:Stp) (w:World) (hq:s.ix<l.length) h=>zaia a c n l s w hq qO h)
 clear hv hu hW
 go_enter Tryz.func225,Tryz.ntmps225
 go_wp2_with fail;refine (i1 _ (hs.below qBl)).mono ?_;rintro e w1 ⟨rfl,b1⟩;obtain ⟨X,hX⟩:=qN (w.heap.size);have A1:At w1 X [.int .i64 n,.slice a l.length c]:=(At.new w #[.int .i64 n,.slice a l.length c] 25 hX.symm rfl).below b1;have hb1:Below w.heap.size w w1:=((Below.refl _ _).alloc (Nat.le_refl _) _).trans (b1.mono qP);rw [hX];clear b1 i1 hX;go_wp2_with fail
 go_loopw [5,15] (fun pl i wr=>∃ (k:Nat) (A:Int),k≤st.length∧i=.int .i64 k∧pl=.int .i64 A∧Hid (0<k→A=(nth st (k - 1)).fin l)∧At wr X [.int .i64 n,.slice a l.length c]∧Below w.heap.size w wr) (fun _ i _=>st.length - (intOf i).toNat)
 case atStart=>exact ⟨0,-1,by omega,rfl,rfl,Lib.hid (fun h=>absurd h qO),A1,hb1⟩
 case round =>
  obtain ⟨k,A,hk,rfl,rfl,HA,A2,hb⟩:=hrel;clear A1 hb1
  by_cases hlt:k<st.length
  · obtain ⟨sb,so,rfl,hsb,s0,s1⟩:=Stps.at (hz.below hb) hlt
    obtain ⟨hm,hbg⟩:=HW.out k hlt;have hq:=HU.out _ hm
    have i3:=fun w h=>I3.out (nth st k) w hq h
    have HF:=Lib.hid (rfl:(nth st k).fin l=(nth st k).fin l);obtain ⟨e1,he1⟩:=qN ((nth st k).beg l);obtain ⟨e2,he2⟩:=qN ((nth st k).fin l)
    have hbA:0<k→e1=A:=fun h0=>by
     rw [← he1,hbg,if_neg qO,HA.out h0]
    rw [he1,he2] at i3;have HE2:=Lib.hid he2;clear he1 he2 HF hbg hm;obtain ⟨S,hS⟩:=qN (nth st k);rw [hS] at s0 s1 hq i3;clear hS;obtain ⟨q,b⟩:=S;simp only at s0 s1 hq i3
    have hin:isIdx (q:Int) (l.length:Int)=true:=by simp [isIdx];omega
    have hk2:(k:Int)<st.length:=qO;obtain ⟨Z,hZ⟩:=qN (wr.heap.size)
    have hXZ:X<Z:=by have:=A2.lt;omega
    go_upto_region 7 with fail
    try rw [hZ]
    have Z1:At (wr.alloc (.cells #[.int .i64 (q:Int),.bool b] 193)) Z [.int .i64 (q:Int),.bool b]:=At.new _ _ _ hZ.symm rfl;replace A2:=A2.alloc (.cells #[.int .i64 (q:Int),.bool b] 193);replace hb:=hb.alloc hb.size (.cells #[.int .i64 (q:Int),.bool b] 193);generalize wr.alloc (.cells #[.int .i64 (q:Int),.bool b] 193)=w3 at *;clear s0 s1 hsb hZ;obtain ⟨y,y0,y1,-⟩:=id A2.facts2;obtain ⟨oz,oz0,oz1,-⟩:=id Z1.facts2;go_upto_region 9 with (go_at_call 98;refine (zaal _ _ _).mono ?_;rintro e w' ⟨rfl,rfl⟩);go_wp2_with fail;refine (i3 _ (hs.below hb)).mono ?_;rintro e w4 ⟨rfl,b4⟩;replace A2:=A2.below b4;replace hb:=hb.trans (b4.mono hb.size);clear b4 y y0 y1 oz oz0 oz1 Z1 i3
    by_cases h0:k=0
    · subst h0
      have hg:decide ((0:Int)<((0:Nat):Int))=false:=rfl;go_wp2_with fail;go_roundw
      case rel=>exact ⟨0+1,e2,by omega,by first|rfl|go_num,rfl,(fun _=>HE2.out.symm),A2,hb⟩
      case measure=>simp only [intOf];omega
    · have hg:decide ((0:Int)<(k:Int))=true:=by simp;omega
      obtain rfl:=hbA qO;have hg2:(0:Int)<(k:Int):=qO;go_wp2_with fail;go_roundw
      case rel=>exact ⟨k+1,e2,by omega,by go_num,rfl,(fun _=>HE2.out.symm),A2,hb⟩
      case measure=>exact zaa3 hlt
  · obtain rfl:k=st.length:=by omega
    go_wp2_with fail;go_ret
    exact ⟨rfl,hb⟩
theorem zan9 (a sa:Option Addr) (c sc:Nat) (n:Int) (l:List Lg) (use:List Nat) (frm tgt:Int) (st:List Stp) (w:World) (hsl:st.length≤1000) (hv:svOk ⟨n,l⟩=true) (hu:∀ i ∈ use,i<l.length) (hW:Chn l use frm tgt st) (hs:Legs w a l) (hz:Stps w sa st) :
 Calls Tryz.prog 212 #[.agg #[.int .i64 n,.slice a l.length c],.slice sa st.length sc] w fun e w'=>e=.returned (.tuple #[.agg #[.int .i64 (wayOf Lg.east l st),.int .i64 (wayOf Lg.north l st),.int .i64 (wayOf Lg.up l st)],.bool true])∧Below w.heap.size w w':=by
 have i1:=fun w h1 h2=>zaqk a sa c sc n l use frm tgt st w hsl hv hu hW h1 h2
 obtain ⟨v1,v2,v3,v4⟩:=svOk_iff.1 hv;simp only at v1 v2 v3 v4
 have hlt:∀ k,k<st.length→(nth st k).ix<l.length:=fun k hk=>hu _ (hW.at k hk).1
 have hr:∀ k,k<st.length→legOk 6 (nth l (nth st k).ix)=true:=fun k hk=>zach v2 (zabq v4 (hlt k hk))
 have HLT:=Lib.hid hlt
 have HR:=Lib.hid (fun k hk=>zaaq qO (hr k hk))
 have H6:=Lib.hid hr
 have HE:=Lib.hid (zabo (f:=Lg.east) (l:=l) (st:=st) fun k hk=>(HR.out k hk).2.2.1)
 have HN:=Lib.hid (zabo (f:=Lg.north) (l:=l) (st:=st) fun k hk=>(HR.out k hk).2.2.2.1)
 have HU:=Lib.hid (zabo (f:=Lg.up) (l:=l) (st:=st) fun k hk=>(HR.out k hk).2.2.2.2)
 have HT:=Lib.hid (fun f k (h:k<st.length)=>zagy f l st h)
 have HZ:=Lib.hid (fun (f:Lg→Int)=>show wayOf f l (st.take 0)=0 by simp [wayOf])
 have HF:=Lib.hid (fun (f:Lg→Int)=>show wayOf f l (st.take st.length)=wayOf f l st by rw [List.take_length])
 clear hv hu hW v4 hlt hr
 go_enter Tryz.func212,Tryz.ntmps212
 go_wp2_with fail;obtain ⟨X,hX⟩:=qN (w.heap.size);have hwX:w.heap.size≤X:=qO;have F0:At ((w.alloc (.cells #[.int .i64 n,.slice a l.length c] 25)).alloc (.cells #[.int .i64 0,.int .i64 0,.int .i64 0] 109)) X [.int .i64 n,.slice a l.length c]:=(At.new _ _ _ hX.symm rfl).alloc _;have R0:At ((w.alloc (.cells #[.int .i64 n,.slice a l.length c] 25)).alloc (.cells #[.int .i64 0,.int .i64 0,.int .i64 0] 109)) (X+1) [.int .i64 0,.int .i64 0,.int .i64 0]:=At.new _ _ _ (by simp [hX]) rfl;have b0:Below w.heap.size w ((w.alloc (.cells #[.int .i64 n,.slice a l.length c] 25)).alloc (.cells #[.int .i64 0,.int .i64 0,.int .i64 0] 109)):=qBl;rw [hX];generalize (w.alloc (.cells #[.int .i64 n,.slice a l.length c] 25)).alloc (.cells #[.int .i64 0,.int .i64 0,.int .i64 0] 109)=w0 at *;clear hX;refine (i1 _ (hs.below b0) (hz.below b0)).mono ?_;rintro e w1 ⟨rfl,b1⟩;replace F0:=F0.below b1;replace R0:=R0.below b1;replace b0:=b0.trans (b1.mono b0.size);clear b1 i1;obtain ⟨Y,hY⟩:=qN (w1.heap.size)
 have hXY:X+1<Y:=by have:=R0.lt;omega
 go_upto_region 5 with fail
 try rw [hY]
 have O0:At (w1.alloc (.cells #[.int .i64 0,.int .i64 0,.int .i64 0] 109)) Y [.int .i64 0,.int .i64 0,.int .i64 0]:=At.new _ _ _ hY.symm rfl;replace F0:=F0.alloc (.cells #[.int .i64 0,.int .i64 0,.int .i64 0] 109);replace R0:=R0.alloc (.cells #[.int .i64 0,.int .i64 0,.int .i64 0] 109);replace b0:=b0.alloc b0.size (.cells #[.int .i64 0,.int .i64 0,.int .i64 0] 109);generalize w1.alloc (.cells #[.int .i64 0,.int .i64 0,.int .i64 0] 109)=w2 at *;clear hY
 go_loopw [18] (fun i wr=>∃ k:Nat,k≤st.length∧i=.int .i64 k∧At wr X [.int .i64 n,.slice a l.length c]∧At wr (X+1) [.int .i64 0,.int .i64 0,.int .i64 0]∧At wr Y [.int .i64 (wayOf Lg.east l (st.take k)),.int .i64 (wayOf Lg.north l (st.take k)),.int .i64 (wayOf Lg.up l (st.take k))]∧Below w.heap.size w wr) (fun i _=>st.length - (intOf i).toNat)
 case atStart=>exact ⟨0,by omega,rfl,F0,R0,by rw [HZ.out,HZ.out,HZ.out];exact O0,b0⟩
 case round =>
  obtain ⟨k,hk,rfl,F,R,O,hb⟩:=hrel;clear F0 R0 O0 b0;obtain ⟨y,y0,y1,-⟩:=id F.facts2
  by_cases hlt:k<st.length
  case neg =>
   obtain rfl:k=st.length:=qO;rw [HF.out,HF.out,HF.out] at O;obtain ⟨o,o0,o1,o2,-⟩:=id O.facts3;obtain ⟨r,r0,r1,r2,rf⟩:=id R.facts3;obtain ⟨E1,hE1⟩:=qM (wayOf Lg.east l st);obtain ⟨N1,hN1⟩:=qM (wayOf Lg.north l st);obtain ⟨U1,hU1⟩:=qM (wayOf Lg.up l st);rw [← hE1] at o0;rw [← hN1] at o1;rw [← hU1] at o2;have HE1:=Lib.hid hE1;have HN1:=Lib.hid hN1;have HU1:=Lib.hid hU1;clear HF HT HZ hE1 hN1 hU1 O;go_wp2_with fail;refine bodyPost_ret (v:=.tuple #[.agg #[.int .i64 E1,.int .i64 N1,.int .i64 U1],.bool true]) (by simp [results,Tryz.results212,go_sem,r,r0,r1,r2]) rfl ⟨by rw [HE1.out,HN1.out,HU1.out],?_⟩
   exact zabk hb qO _ _ _
  obtain ⟨sb,so,rfl,hsb,s0,s1⟩:=Stps.at (hz.below hb) hlt;have hq:=HLT.out k hlt;have hr:=HR.out k hlt;have h6:=H6.out k hlt;have q1:=HT.out Lg.east k hlt;have q2:=HT.out Lg.north k hlt;have q3:=HT.out Lg.up k hlt;have t1:=HE.out k qO;have t2:=HN.out k qO;have t3:=HU.out k qO;obtain ⟨S,hS⟩:=qN (nth st k);rw [hS] at s0 s1 hq hr h6 q1 q2 q3;clear hS;obtain ⟨q,bk⟩:=S;simp only [Stp.way] at s0 s1 hq hr h6 q1 q2 q3;obtain ⟨b,off,rfl,hbw,e1,e2,e3,e4,e5⟩:=Legs.at (hs.below hb) hq
  have iB:=fun w=>zai3 (nth l q) w h6
  obtain ⟨⟨g1,g2,g3,g4,g5⟩,hg⟩:=qN (nth l q);rw [hg] at e1 e2 e3 e4 e5 iB hr q1 q2 q3;simp only [Lg.val,legBack] at e1 e2 e3 e4 e5 iB hr q1 q2 q3;obtain ⟨hr1,hr2,hr3,hr4,hr5⟩:=hr;clear hg h6;have Q1:=Lib.hid q1;have Q2:=Lib.hid q2;have Q3:=Lib.hid q3;clear q1 q2 q3;obtain ⟨E1,hE1⟩:=qN (wayOf Lg.east l (st.take k));obtain ⟨N1,hN1⟩:=qN (wayOf Lg.north l (st.take k));obtain ⟨U1,hU1⟩:=qN (wayOf Lg.up l (st.take k));rw [hE1] at O t1 Q1;rw [hN1] at O t2 Q2;rw [hU1] at O t3 Q3;clear hE1 hN1 hU1;have hq2:(q:Int)<l.length:=qO;have hk2:(k:Int)<st.length:=qO;have hk9:(k:Int)≤1000:=qO;have hkn:(k:Nat)≤1000:=qO;obtain ⟨Z,hZ⟩:=qN (wr.heap.size)
  have hYZ:Y<Z:=by have:=O.lt;omega
  have hXZ:X<Z:=qO;have hbZ:b<Z:=qO;have hsZ:sb<Z:=qO;go_upto_region 8 with fail
  try rw [hZ]
  have Z1:At ((wr.alloc (.cells #[.int .i64 (q:Int),.bool bk] 193)).alloc (.cells #[.int .i64 g1,.int .i64 g2,.int .i64 g3,.int .i64 g4,.int .i64 g5] 75)) Z [.int .i64 (q:Int),.bool bk]:=(At.new _ _ _ hZ.symm rfl).alloc _;have G1:At ((wr.alloc (.cells #[.int .i64 (q:Int),.bool bk] 193)).alloc (.cells #[.int .i64 g1,.int .i64 g2,.int .i64 g3,.int .i64 g4,.int .i64 g5] 75)) (Z+1) [.int .i64 g1,.int .i64 g2,.int .i64 g3,.int .i64 g4,.int .i64 g5]:=At.new _ _ _ (by simp [hZ]) rfl;replace F:=(F.alloc (.cells #[.int .i64 (q:Int),.bool bk] 193)).alloc (.cells #[.int .i64 g1,.int .i64 g2,.int .i64 g3,.int .i64 g4,.int .i64 g5] 75);replace R:=(R.alloc (.cells #[.int .i64 (q:Int),.bool bk] 193)).alloc (.cells #[.int .i64 g1,.int .i64 g2,.int .i64 g3,.int .i64 g4,.int .i64 g5] 75);replace O:=(O.alloc (.cells #[.int .i64 (q:Int),.bool bk] 193)).alloc (.cells #[.int .i64 g1,.int .i64 g2,.int .i64 g3,.int .i64 g4,.int .i64 g5] 75);replace hb:=(hb.alloc hb.size (.cells #[.int .i64 (q:Int),.bool bk] 193)).alloc (by have:=hb.size;simp;omega) (.cells #[.int .i64 g1,.int .i64 g2,.int .i64 g3,.int .i64 g4,.int .i64 g5] 75);generalize (wr.alloc (.cells #[.int .i64 (q:Int),.bool bk] 193)).alloc (.cells #[.int .i64 g1,.int .i64 g2,.int .i64 g3,.int .i64 g4,.int .i64 g5] 75)=w3 at *;clear y y0 y1 e1 e2 e3 e4 e5 hbw s0 s1 hsb hZ;obtain ⟨oz,oz0,oz1,-⟩:=id Z1.facts2
  cases bk with
  | false =>
    rw [if_neg (by decide)] at Q1 Q2 Q3
    have iL:=fun w=>zae5 ⟨g1,g2,g3,g4,g5⟩ w
    simp only [Lg.val] at iL
    have iA:=fun w=>zae4 E1 N1 U1 (g3) (g4) (g5) w qO qO qO qO qO qO
    clear oz oz0 oz1;obtain ⟨oz,oz0,oz1,oz2,oz3,oz4,ozf⟩:=id G1.facts5;obtain ⟨o,o0,o1,o2,of⟩:=id O.facts3;go_upto_region 8 with fail;obtain ⟨zz,zz0,zz1,-⟩:=id Z1.facts2;go_upto_region 10 with fail
    go_region_law (first
     | (go_simp;go_at_call 90;refine (iL _).mono ?_;rintro e wy ⟨rfl,c1⟩;have By:=zaae (V:=w3) qHb c1;have O4:=O.below By;obtain ⟨p,p0,p1,p2,pf⟩:=id O4.facts3;clear c1)
     | (go_simp;go_at_call 185;refine (iA _).mono ?_;rintro e wz ⟨rfl,c2⟩;have Bz:=zaae (V:=w3) qHb c2;have O5:=O.below Bz;obtain ⟨p',p0',p1',p2',pf'⟩:=id O5.facts3;clear c2)
     | fail)
    all_goals
     replace F:=F.below Bz;replace R:=R.below Bz;replace O:=O.below Bz;replace hb:=hb.trans (Bz.mono hb.size);go_wp2_with fail;go_roundw
     case rel=>exact ⟨k+1,by omega,by go_num,((F.setOther (by show X≠Y;omega) _).setOther (by show X≠Y;omega) _).setOther (by show X≠Y;omega) _,((R.setOther (by show X+1≠Y;omega) _).setOther (by show X+1≠Y;omega) _).setOther (by show X+1≠Y;omega) _,by rw [Q1.out,Q2.out,Q3.out];exact O.sets3 _ _ _,zabk hb qO _ _ _⟩
     case measure=>exact zaa3 hlt
  | true =>
    rw [if_pos rfl] at Q1 Q2 Q3
    have iL:=fun w=>zae5 ⟨g2,g1,-g3,-g4,-g5⟩ w
    simp only [Lg.val] at iL
    have iA:=fun w=>zae4 E1 N1 U1 (-g3) (-g4) (-g5) w qO qO qO qO qO qO
    clear oz oz0 oz1;obtain ⟨zz,zz0,zz1,-⟩:=id Z1.facts2;obtain ⟨oz,oz0,oz1,oz2,oz3,oz4,ozf⟩:=id G1.facts5;go_wp2_with fail;refine (iB _).mono ?_;rintro e w4 ⟨rfl,b4⟩;replace F:=F.below b4;replace R:=R.below b4;replace O:=O.below b4;replace G1:=G1.below b4;replace hb:=hb.trans (b4.mono hb.size);clear b4 oz oz0 oz1 oz2 oz3 oz4 ozf zz zz0 zz1 iB;obtain ⟨oz,oz0,oz1,oz2,oz3,oz4,ozf⟩:=id G1.facts5;go_upto_region 10 with fail;replace G1:=G1.sets5 (.int .i64 g2) (.int .i64 g1) (.int .i64 (-g3)) (.int .i64 (-g4)) (.int .i64 (-g5));replace F:=((((F.setOther (p:=⟨Z+1,0,none⟩) (by show X≠Z+1;omega) (.int .i64 g2)).setOther (p:=⟨Z+1,1,none⟩) (by show X≠Z+1;omega) (.int .i64 g1)).setOther (p:=⟨Z+1,2,none⟩) (by show X≠Z+1;omega) (.int .i64 (-g3))).setOther (p:=⟨Z+1,3,none⟩) (by show X≠Z+1;omega) (.int .i64 (-g4))).setOther (p:=⟨Z+1,4,none⟩) (by show X≠Z+1;omega) (.int .i64 (-g5));replace R:=((((R.setOther (p:=⟨Z+1,0,none⟩) (by show X+1≠Z+1;omega) (.int .i64 g2)).setOther (p:=⟨Z+1,1,none⟩) (by show X+1≠Z+1;omega) (.int .i64 g1)).setOther (p:=⟨Z+1,2,none⟩) (by show X+1≠Z+1;omega) (.int .i64 (-g3))).setOther (p:=⟨Z+1,3,none⟩) (by show X+1≠Z+1;omega) (.int .i64 (-g4))).setOther (p:=⟨Z+1,4,none⟩) (by show X+1≠Z+1;omega) (.int .i64 (-g5));replace O:=((((O.setOther (p:=⟨Z+1,0,none⟩) (by show Y≠Z+1;omega) (.int .i64 g2)).setOther (p:=⟨Z+1,1,none⟩) (by show Y≠Z+1;omega) (.int .i64 g1)).setOther (p:=⟨Z+1,2,none⟩) (by show Y≠Z+1;omega) (.int .i64 (-g3))).setOther (p:=⟨Z+1,3,none⟩) (by show Y≠Z+1;omega) (.int .i64 (-g4))).setOther (p:=⟨Z+1,4,none⟩) (by show Y≠Z+1;omega) (.int .i64 (-g5));replace hb:=((((hb.setCell (p:=⟨Z+1,0,none⟩) (by show w.heap.size≤Z+1;omega) (.int .i64 g2)).setCell (p:=⟨Z+1,1,none⟩) (by show w.heap.size≤Z+1;omega) (.int .i64 g1)).setCell (p:=⟨Z+1,2,none⟩) (by show w.heap.size≤Z+1;omega) (.int .i64 (-g3))).setCell (p:=⟨Z+1,3,none⟩) (by show w.heap.size≤Z+1;omega) (.int .i64 (-g4))).setCell (p:=⟨Z+1,4,none⟩) (by show w.heap.size≤Z+1;omega) (.int .i64 (-g5));generalize ((((w4.setCell ⟨Z+1,0,none⟩ (.int .i64 g2)).setCell ⟨Z+1,1,none⟩ (.int .i64 g1)).setCell ⟨Z+1,2,none⟩ (.int .i64 (-g3))).setCell ⟨Z+1,3,none⟩ (.int .i64 (-g4))).setCell ⟨Z+1,4,none⟩ (.int .i64 (-g5))=w5 at *
    clear oz oz0 oz1 oz2 oz3 oz4 ozf;obtain ⟨oz,oz0,oz1,oz2,oz3,oz4,ozf⟩:=id G1.facts5;obtain ⟨o,o0,o1,o2,of⟩:=id O.facts3
    go_region_law (first
     | (go_simp;go_at_call 90;refine (iL _).mono ?_;rintro e wy ⟨rfl,c1⟩;have By:=zaae (V:=w5) qHb c1;have O4:=O.below By;obtain ⟨p,p0,p1,p2,pf⟩:=id O4.facts3;clear c1)
     | (go_simp;go_at_call 185;refine (iA _).mono ?_;rintro e wz ⟨rfl,c2⟩;have Bz:=zaae (V:=w5) qHb c2;have O5:=O.below Bz;obtain ⟨p',p0',p1',p2',pf'⟩:=id O5.facts3;clear c2)
     | fail)
    all_goals
     replace F:=F.below Bz;replace R:=R.below Bz;replace O:=O.below Bz;replace hb:=hb.trans (Bz.mono hb.size);go_wp2_with fail;go_roundw
     case rel=>exact ⟨k+1,by omega,by go_num,((F.setOther (by show X≠Y;omega) _).setOther (by show X≠Y;omega) _).setOther (by show X≠Y;omega) _,((R.setOther (by show X+1≠Y;omega) _).setOther (by show X+1≠Y;omega) _).setOther (by show X+1≠Y;omega) _,by rw [Q1.out,Q2.out,Q3.out];exact O.sets3 _ _ _,zabk hb qO _ _ _⟩
     case measure=>exact zaa3 hlt
set_option maxHeartbeats 1000000
theorem zal3 (a:Option Addr) (c n:Nat) (l:List Lg) (x:Nat) (w:World) (hv:svOk ⟨(n:Int),l⟩=true) (hx:x<n) (hs:Legs w a l) :
 Calls Tryz.prog 184 #[.agg #[.int .i64 (n:Int),.slice a l.length c],.int .i64 (x:Int)] w fun e w'=>∃ p q r:Int,e=.returned (.tuple #[.agg #[.int .i64 p,.int .i64 q,.int .i64 r],.bool true])∧((-10000000≤p∧p≤10000000)∧(-10000000≤q∧q≤10000000)∧(-10000000≤r∧r≤10000000))∧Hid (IsPlace ⟨(n:Int),l⟩ (x:Int) p q r)∧Below w.heap.size w w':=by
 obtain ⟨v1,v2,v3,v4⟩:=svOk_iff.1 hv;simp only at v1 v2 v3
 have i1:=fun w h=>zaab a c (n:Int) l w qO h
 rw [hv] at i1
 have hE:∀ g ∈ l,EdgeIn n g:=by
  have:=zadm hv
  simpa using this
 have hp:=zahr (n:=n) l hE;have hlo:=hp.lo x hx;have hre:=(zakj hE (hp.reach x hx)).symm
 have hroot:rootS ⟨(n:Int),l⟩ (x:Int)=nth (partsOf n l) x:=by simp [rootS]
 have htr:treeS ⟨(n:Int),l⟩=treeF n l:=by simp [treeS,hv]
 have hu:∀ i ∈ treeF n l,i<l.length:=fun i hi=>(zac7 hE (Nat.le_refl _) i hi).1
 have I2:=Lib.hid (fun w h=>zamx a c n l w hv h)
 have hpl:=zabr n l;obtain ⟨rt,hrt⟩:∃ rt:Nat,nth (partsOf n l) x=(rt:Int):=⟨(nth (partsOf n l) x).toNat,by omega⟩;rw [hrt] at hre hroot hlo;have hrn:rt<n:=qO
 have I3:=Lib.hid (fun w h=>zary a c n l rt x w hv hrn hx hre h)
 have I4:=Lib.hid (fun sa sc (ss:List Stp) (hsl:ss.length≤1000) (hW:Chn l (treeF n l) (rt:Int) (x:Int) ss) w h1 h2=>zan9 a sa c sc (n:Int) l _ _ _ ss w hsl hv hu hW h1 h2)
 have HSUM:=Lib.hid (fun (ss:List Stp) (hW:Chn l (treeF n l) (rt:Int) (x:Int) ss)=>show IsPlace ⟨(n:Int),l⟩ (x:Int) (wayOf Lg.east l ss) (wayOf Lg.north l ss) (wayOf Lg.up l ss) from fun f g h hf hg hh=>by
  rw [hroot];rw [htr] at hf hg hh
  exact ⟨hW.sum hf,hW.sum hg,hW.sum hh⟩)
 have HBD:=Lib.hid (fun (ss:List Stp) (hsl:ss.length≤1000) (hW:Chn l (treeF n l) (rt:Int) (x:Int) ss)=>show (-10000000≤wayOf Lg.east l ss∧wayOf Lg.east l ss≤10000000)∧(-10000000≤wayOf Lg.north l ss∧wayOf Lg.north l ss≤10000000)∧(-10000000≤wayOf Lg.up l ss∧wayOf Lg.up l ss≤10000000) by
  have hr:∀ k,k<ss.length→legOk 6 (nth l (nth ss k).ix)=true:=fun k hk=>zach v2 (zabq v4 (hu _ (hW.at k hk).1))
  have k1:=zabo (f:=Lg.east) (l:=l) (st:=ss) (fun k hk=>(zaaq qO (hr k hk)).2.2.1) ss.length (Nat.le_refl _)
  have k2:=zabo (f:=Lg.north) (l:=l) (st:=ss) (fun k hk=>(zaaq qO (hr k hk)).2.2.2.1) ss.length (Nat.le_refl _)
  have k3:=zabo (f:=Lg.up) (l:=l) (st:=ss) (fun k hk=>(zaaq qO (hr k hk)).2.2.2.2) ss.length (Nat.le_refl _)
  rw [List.take_length] at k1 k2 k3
  omega)
 have hin:isIdx (x:Int) (n:Int)=true:=by simp [isIdx];omega
 obtain ⟨p,hpe⟩:=qN (partsOf n l);rw [hpe] at hpl I2 hrt;obtain ⟨us,hus⟩:=qN (treeF n l);rw [hus] at I3 I4 HSUM HBD;have HPL:=Lib.hid hpl;have HRT:=Lib.hid hrt;have hxi:(x:Int)<(n:Int):=qO;clear hpe hus hpl hrt hlo hre hroot htr hu hE hp hv v4
 go_enter Tryz.func184,Tryz.ntmps184
 go_wp2_with fail;refine (i1 _ (hs.below qBl)).mono ?_;rintro e w1 ⟨rfl,b1⟩;obtain ⟨X,hX⟩:=qN (w.heap.size);have F1:At w1 X [.int .i64 (n:Int),.slice a l.length c]:=((At.new _ #[.int .i64 (n:Int),.slice a l.length c] 25 hX.symm rfl).alloc _).below b1;have R1:At w1 (X+1) [.int .i64 0,.int .i64 0,.int .i64 0]:=(At.new _ #[.int .i64 0,.int .i64 0,.int .i64 0] 109 (by simp [hX]) rfl).below b1;have hb:Below w.heap.size w w1:=Below.trans qBl (b1.mono (by simp;omega));have hwX:w.heap.size≤X+1:=qO;rw [hX];clear b1 hX i1;obtain ⟨y,y0,y1,-⟩:=id F1.facts2;have hs1:=hs.below hb;go_upto_region 3 with (go_at_call 98;refine (zaal _ _ _).mono ?_;rintro e w' ⟨rfl,rfl⟩);have i2:=I2.out;have i3:=I3.out
 go_cut [6,7] (fun v v7 wx=>∃ (ss:List Stp) (av:Option Addr) (cv:Nat),v=.slice av ss.length cv∧v7=.bool true∧OwnS wx w1.heap.size (.slice av ss.length cv) ss∧Chn l us (rt:Int) (x:Int) ss∧ss.length≤6∧Below w1.heap.size w1 wx)
 case first =>
  go_region_law
   (first
   | (go_simp;go_at_call 179;refine (i2 _ (hs1.below qHb)).mono ?_;rintro e wy ⟨g0,rfl,oy,c1⟩;obtain ⟨g,hgg,-,-,hgl,gc,-⟩:=OwnZ.form1 oy (by have:=HPL.out;omega);cases hgg;have gx:=gc x (by rw [HPL.out];exact hx);rw [HRT.out] at gx;have By:=zaae (V:=w1) qHb c1;(first|clear CX|skip);have CX:∀ b o,b<w1.heap.size→wy.cell? ⟨b,o,none⟩=w1.cell? ⟨b,o,none⟩:=fun b o hl=>By.cell (p:=⟨b,o,none⟩) hl;have zy:=By.size;clear c1 gc)
   | (go_simp;go_at_call 211;refine (i3 _ (hs1.below qHb)).mono ?_;rintro e wz ⟨ss,sv,sc,rfl,oz,kw,k3,c1⟩;have Bz:=zaae (V:=w1) qHb c1;(first|clear CX|skip);have CX:∀ b o,b<w1.heap.size→wz.cell? ⟨b,o,none⟩=w1.cell? ⟨b,o,none⟩:=fun b o hl=>Bz.cell (p:=⟨b,o,none⟩) hl;have zz:=Bz.size;clear c1)
   | fail)
  all_goals (go_wp2_with fail;go_meet)
  all_goals exact ⟨ss,sv,sc,rfl,rfl,oz.mono qSo,kw,k3,qHb⟩
 case rest =>
  obtain ⟨ss,sv,sc,rfl,rfl,os,kw,k3,bb⟩:=hcut;replace F1:=F1.below bb;replace R1:=R1.below bb;replace hb:=hb.trans (bb.mono hb.size);clear bb y y0 y1 hs1 i2 i3;obtain ⟨y,y0,y1,-⟩:=id F1.facts2;have HS:=Lib.hid (HSUM.out ss kw);have HB:=Lib.hid (HBD.out ss qO kw);have i5:=I4.out sv sc ss qO kw;clear kw;obtain ⟨E1,hE1⟩:=qN (wayOf Lg.east l ss);obtain ⟨N1,hN1⟩:=qN (wayOf Lg.north l ss);obtain ⟨U1,hU1⟩:=qN (wayOf Lg.up l ss);rw [hE1,hN1,hU1] at HS HB i5;clear hE1 hN1 hU1;go_wp2_with fail;refine (i5 _ (hs.below hb) os.kr).mono ?_;rintro e w6 ⟨rfl,b6⟩;replace R1:=R1.below b6;replace hb:=hb.trans (b6.mono hb.size);clear b6 i5 y y0 y1;obtain ⟨r,r0,r1,r2,rf⟩:=id R1.facts3;go_wp2_with fail;refine bodyPost_ret (v:=.tuple #[.agg #[.int .i64 E1,.int .i64 N1,.int .i64 U1],.bool true]) (by simp [results,Tryz.results184,go_sem,r,r0,r1,r2]) rfl ?_
  exact ⟨E1,N1,U1,rfl,HB.out,HS,zabk hb qO _ _ _⟩
end Go.Proofs.YthfoloefkfadlaaGreatDoor
