/- Walks: spec.l2Right. -/
import Derived.Test.YthfoloefkfadlaaGreatDoorM4
import Derived.Test.YthfoloefkfadlaaGreatDoorM2
import Derived.Test.YthfoloefkfadlaaGreatDoorM3
import Derived.Test.YthfoloefkfadlaaGreatDoorKA
import Derived.StillTailTactics
import Derived.Deep.RegionHeld3
set_option linter.unusedSimpArgs false
set_option linter.unusedVariables false
set_option maxHeartbeats 2000000
set_option maxRecDepth 100000
namespace Go.Proofs.YthfoloefkfadlaaGreatDoor
open Go Go.RowKit Go.Sort
structure RtSt (w:World) (X:Nat) (st:Int) (a:Option Addr) (l:List Lg) (c G m:Nat) (F:Nat→Int) (wr:World):Prop where
 x:At wr X [.int .i64 st,.slice a l.length c]
 s:Legs wr a l
 e:OwnZ wr G (.slice (some ⟨G,0,none⟩) m m) (rowF m F)
 u:Below w.heap.size w wr
 wx:w.heap.size≤X
 xb:X<G
 ls:∀ b o,a=some ⟨b,o,none⟩→0<l.length→b<X
section
variable {w wr w2:World} {X:Nat} {st:Int} {a:Option Addr} {l:List Lg} {c G m:Nat} {F:Nat→Int}
theorem RtSt.below (h:RtSt w X st a l c G m F wr) (hb:Below wr.heap.size wr w2):RtSt w X st a l c G m F w2 :=
 { h with x:=h.x.below hb,s:=h.s.below hb,e:=h.e.below hb,u:=h.u.trans (hb.mono h.u.size) }
theorem RtSt.set (h:RtSt w X st a l c G m F wr) {i:Nat} (hi:i<m) (x:Int):RtSt w X st a l c G m (fun j=>if j=i then x else F j) (wr.setCell ⟨G,i,none⟩ (.int .i64 x)) :=
 have:=h.wx;have:=h.xb
 { h with x:=h.x.setOther (p:=⟨G,i,none⟩) (by show X≠G;omega) _,s:=zagu h.s h.ls qO i _,e:=zagv h.e hi x,u:=h.u.setCell (p:=⟨G,i,none⟩) (by show w.heap.size≤G;omega) _ }
theorem RtSt.at (h:RtSt w X st a l c G m F wr) {i:Nat} (hi:i<m):wr.cell? ⟨G,i,none⟩=some (.int .i64 (F i))∧wr.frozen? ⟨G,i,none⟩=false:=by
 obtain ⟨g,hg,-,-,-,hc,hf⟩:=OwnZ.form1 h.e (by rw [zaas];omega)
 cases hg
 have:=hc i (by rw [zaas];exact hi);rw [zab4 _ hi] at this
 exact ⟨this,hf i⟩
theorem RtSt.congr {F':Nat→Int} (h:RtSt w X st a l c G m F wr) (h1:∀ j,j<m→F' j=F j):RtSt w X st a l c G m F' wr :=
 { h with e:=by rw [zaa7 h1];exact h.e }
end
theorem zaud (f:Lg→Int) (l:List Lg) (m:Nat):(rowF (m+1) fun j:Nat=>pullN f l (j:Int)).drop 1=pullL f l m:=by
 refine zabf (by simp [rowF,pullL]) fun k hk=>?_
 have hk':k<m:=by simpa [rowF] using hk
 rw [zaba,zab4 _ qO,zaun hk'];simp only [Int.natCast_add,Int.natCast_one,Int.add_comm]
theorem zaq3 (a:Option Addr) (c:Nat) (st:Int) (l:List Lg) (dir:Nat) (f:Lg→Int) (w:World) (hv:svOk ⟨st,l⟩=true) (hdf:(dir=0∧f=Lg.east)∨(dir=1∧f=Lg.north)∨(dir=2∧f=Lg.up)) (hs:Legs w a l) :
 Calls Tryz.prog 145 #[.agg #[.int .i64 st,.slice a l.length c],.int .i64 (dir:Int)] w fun e w'=>∃ av cv,e=.returned (.slice av (st.toNat - 1) cv)∧Zs w' av (pullL f l (st.toNat - 1))∧Below w.heap.size w w':=by
 obtain ⟨v1,v2,v3⟩:=st_in hv;simp only at v1 v2 v3
 have HIN:=Lib.hid (fun k (hk:k<l.length)=>zafc hv hk)
 have HPU:=Lib.hid (fun k (hk:k<l.length)=>zabj hv _ (zaaf hk))
 have hff:f=Lg.east∨f=Lg.north∨f=Lg.up:=by
  rcases hdf with h|h|h
  · exact .inl h.2
  · exact .inr (.inl h.2)
  · exact .inr (.inr h.2)
 have HBD:=Lib.hid (fun (k:Nat) (b:Int)=>show -891≤pullN f (l.take k) b∧pullN f (l.take k) b≤891 by
  have h:=zaek (f:=f) (l:=l.take k) b (fun g hg=>by
   have hg:=List.mem_of_mem_take hg;have h3:=(zacb hv g hg).2;have h4:=zabj hv g hg
   rcases hff with rfl|rfl|rfl
   · exact ⟨h3,h4.1⟩
   · exact ⟨h3,h4.2.1⟩
   · exact ⟨h3,h4.2.2⟩)
  have h5:(l.take k).length≤9:=by simp only [List.length_take];omega
  omega)
 have HCL:=Lib.hid (fun (g:Lg) (W:World)=>show (W.alloc (.cells #[.int .i64 g.east,.int .i64 g.north,.int .i64 g.up] 3)).cell? ⟨W.heap.size,dir,none⟩=some (.int .i64 (f g)) by
  rcases hdf with ⟨rfl,rfl⟩|⟨rfl,rfl⟩|⟨rfl,rfl⟩ <;> simp)
 have HLX:=Lib.hid (fun (g:Lg) (h:dir<[Value.int .i64 g.east,.int .i64 g.north,.int .i64 g.up].length)=>show [Value.int .i64 g.east,.int .i64 g.north,.int .i64 g.up][dir]'h=.int .i64 (f g) by
  rcases hdf with ⟨rfl,rfl⟩|⟨rfl,rfl⟩|⟨rfl,rfl⟩ <;> rfl)
 have HFB:=Lib.hid (fun (g:Lg) (h:(-99≤g.east∧g.east≤99)∧(-99≤g.north∧g.north≤99)∧(-99≤g.up∧g.up≤99))=>show -99≤f g∧f g≤99 by
  rcases hff with rfl|rfl|rfl
  · exact h.1
  · exact h.2.1
  · exact h.2.2)
 have hd3:dir<3:=by rcases hdf with h|h|h <;> omega
 have hd3':(dir:Int)<3:=qO;have HDR:=Lib.hid (zaud f l (st.toNat - 1));have HPL:=Lib.hid (zafw f l (st.toNat - 1));obtain ⟨m,hm⟩:=qN (st.toNat - 1);rw [hm] at HIN HDR HPL ⊢;obtain rfl:st=(m:Int)+1:=qO;have hm5:m≤5:=qO;have HLL:=Lib.hid v3
 have mi:∀ W,(Instr.makeSlice 150 (.int .i64 ((m:Int)+1)) (.int .i64 ((m:Int)+1))).run Tryz.prog W=.ok (.slice (some ⟨W.heap.size,0,none⟩) (m+1) (m+1)) (W.alloc (.cells (madeCells #[.int .i64 0] (m+1)) 3)):=fun W=>by
  have h:=zacm (m+1) qO W
  rwa [Int.natCast_add,Int.natCast_one] at h
 have nn:(0:Int)≤(m:Int)+1:=qO
 have hls:∀ b o,a=some ⟨b,o,none⟩→0<l.length→b<w.heap.size:=fun b o e h0=>by rw [e] at hs;exact hs.lt h0
 have mixed:Tryz.prog.follows Departure.mixedOrders=true:=by kernel_rfl
 have hsl:=fun G W=>zavk G 0 (m+1) m qO W
 have HSL:=Lib.hid hsl;clear hdf hff hv hm hsl v1 v2 v3
 go_enter Tryz.func145,Tryz.ntmps145
 go_wp2_with fail;obtain ⟨X,hX⟩:=qN (w.heap.size)
 have H0:RtSt w X ((m:Int)+1) a l c (X+1) (m+1) (fun _=>0) ((w.alloc (.cells #[.int .i64 ((m:Int)+1),.slice a l.length c] 25)).alloc (.cells (madeCells #[.int .i64 0] (m+1)) 3)):=by
  have h0:=OwnZ.made (w.alloc (.cells #[.int .i64 ((m:Int)+1),.slice a l.length c] 25)) (X+1) (m+1) (by simp;omega) qO;rw [zaeo,show (w.alloc (.cells #[.int .i64 ((m:Int)+1),.slice a l.length c] 25)).heap.size=X+1 by simp [hX]] at h0
  exact { x:=(At.new w _ 25 hX.symm rfl).alloc _,s:=hs.below qBl,e:=h0,u:=qBl,wx:=by omega,xb:=by omega,ls:=fun b o e h=>by have:=hls b o e h;omega }
 rw [hX];clear mi nn hls
 go_loopw [6] (fun i wr=>∃ k:Nat,k≤l.length∧i=.int .i64 k∧RtSt w X ((m:Int)+1) a l c (X+1) (m+1) (fun j:Nat=>pullN f (l.take k) (j:Int)) wr) (fun i _=>l.length - (intOf i).toNat)
 case atStart=>exact ⟨0,by omega,rfl,H0⟩
 case round =>
  clear H0;obtain ⟨k,hk,rfl,H⟩:=hrel;obtain ⟨y,y0,y1,-⟩:=id H.x.facts2
  by_cases hlt:k<l.length
  · obtain ⟨b,off,ea,hbw,e1,e2,e3,e4,e5⟩:=Legs.at H.s hlt
    subst ea;obtain ⟨h1,h2,h3⟩:=HIN.out k hlt;have hq:=HPU.out k hlt
    have hbE:=fun j:Nat=>HBD.out k (j:Int)
    have HTE:=Lib.hid (fun b=>zae0 (f:=f) hlt b)
    obtain ⟨g,hg⟩:=qN (nth l k);have hcl:=HCL.out g;have hlx:=HLX.out g;rw [hg] at e1 e2 e3 e4 e5 h1 h2 h3 hq HTE;have hfb:=HFB.out g hq
    have HPC:=Lib.hid (fun b=>show pullC f g b=(if g.to=b then f g else 0) - (if g.frm=b then f g else 0) from rfl)
    obtain ⟨x,hx⟩:=qN (f g);rw [hx] at hcl hfb HPC hlx;clear hg hx hq;obtain ⟨g1,g2,g3,g4,g5⟩:=g;simp only at e1 e2 e3 e4 e5 h1 h2 h3 hcl HPC hlx;obtain ⟨y1',rfl⟩:∃ y:Nat,g1=(y:Int):=⟨g1.toNat,by omega⟩;obtain ⟨z,rfl⟩:∃ y:Nat,g2=(y:Int):=⟨g2.toNat,by omega⟩;have hym:y1'<m+1:=qO;have hzm:z<m+1:=qO;have hym2:(y1':Int)<(m:Int)+1:=qO;have hzm2:(z:Int)<(m:Int)+1:=qO;have hyz:y1'≠z:=qO
    have hFE':∃ F:Nat→Int,∀ j,F j=pullN f (l.take k) (j:Int):=⟨fun j=>_,fun j=>rfl⟩
    obtain ⟨F,hF⟩:=hFE'
    replace H:=H.congr (F':=F) (fun j _=>hF j)
    simp only [← hF] at hbE;have HF:=Lib.hid hF;clear hF h1 h2 h3;have hk2:(k:Int)<(l.length:Int):=qO
    have hk9:(k:Int)≤9:=by have:=HLL.out;omega
    obtain ⟨Z,hZ⟩:=qN (wr.heap.size)
    have hZX:X+1<Z:=by have:=(H.e.lt (k:=X+1) rfl).2;omega
    have hn1:Z≠X+1:=qO;have hn2:X+1≠Z:=qO;have hcl1:=hcl (wr.alloc (.cells #[.int .i64 (y1':Int),.int .i64 (z:Int),.int .i64 g3,.int .i64 g4,.int .i64 g5] 75));clear hcl
    as_aux_lemma =>
     go_upto_region 7 with fail
     try rw [hZ]
     clear hlx;have Z1:At ((wr.alloc (.cells #[.int .i64 (y1':Int),.int .i64 (z:Int),.int .i64 g3,.int .i64 g4,.int .i64 g5] 75)).alloc (.cells #[.int .i64 g3,.int .i64 g4,.int .i64 g5] 3)) Z [.int .i64 (y1':Int),.int .i64 (z:Int),.int .i64 g3,.int .i64 g4,.int .i64 g5]:=(At.new _ _ _ hZ.symm rfl).alloc _;replace H:=H.below (w2:=((wr.alloc (.cells #[.int .i64 (y1':Int),.int .i64 (z:Int),.int .i64 g3,.int .i64 g4,.int .i64 g5] 75)).alloc (.cells #[.int .i64 g3,.int .i64 g4,.int .i64 g5] 3))) qBl;generalize ((wr.alloc (.cells #[.int .i64 (y1':Int),.int .i64 (z:Int),.int .i64 g3,.int .i64 g4,.int .i64 g5] 75)).alloc (.cells #[.int .i64 g3,.int .i64 g4,.int .i64 g5] 3))=w3 at *;clear e1 e2 e3 e4 e5 hbw hZ hcl1 y y0 y1;obtain ⟨oz,oz0,oz1,oz2,oz3,oz4,ozf⟩:=id Z1.facts5;obtain ⟨c1,f1⟩:=H.at (i:=z) hzm;obtain ⟨xx,hxx⟩:=qN (F z);rw [hxx] at c1;have hxb:=hbE z;rw [hxx] at hxb;have hwx:IntKind.i64.wrap (xx+x)=xx+x:=IntWalk.i64_in _ qO;have HX7:=Lib.hid hxx;clear hxx;go_upto_region 7 with fail
     go_region_o
     replace H:=(H.set (i:=z) hzm (xx+x)).below ((Below.refl _ _).drew);replace Z1:=(Z1.setOther (p:=⟨X+1,z,none⟩) hn1 (.int .i64 (xx+x))).drew;generalize (w3.setCell ⟨X+1,z,none⟩ (.int .i64 (xx+x))).drew=w4 at *;clear oz oz0 oz1 oz2 oz3 oz4 ozf c1 f1 hwx w3;obtain ⟨w3,hw3⟩:=qM (w4);subst hw3;obtain ⟨x7,rfl⟩:=qM (xx)
     as_aux_lemma =>
      obtain ⟨oz,oz0,oz1,oz2,oz3,oz4,ozf⟩:=id Z1.facts5;obtain ⟨c1,f1⟩:=H.at (i:=y1') hym;simp only [if_neg hyz] at c1;obtain ⟨xx,hxx⟩:=qN (F y1');rw [hxx] at c1;have hxb:=hbE y1';rw [hxx] at hxb;have hwx:IntKind.i64.wrap (xx - x)=xx - x:=IntWalk.i64_in _ qO;have HX8:=Lib.hid hxx;clear hxx;go_upto_region 8 with fail
      go_region_o
      replace H:=(H.set (i:=y1') hym (xx - x)).below ((Below.refl _ _).drew);replace Z1:=(Z1.setOther (p:=⟨X+1,y1',none⟩) hn1 (.int .i64 (xx - x))).drew;generalize (w3.setCell ⟨X+1,y1',none⟩ (.int .i64 (xx - x))).drew=w4 at *;clear oz oz0 oz1 oz2 oz3 oz4 ozf c1 f1 hwx w3;obtain ⟨w3,hw3⟩:=qM (w4);subst hw3;obtain ⟨x8,rfl⟩:=qM (xx)
      as_aux_lemma =>
       obtain ⟨oz,oz0,oz1,oz2,oz3,oz4,ozf⟩:=id Z1.facts5;go_wp2_with fail;go_roundw
       case rel =>
        have hwk:k+1≤l.length:=qO
        refine ⟨k+1,hwk,by go_num,H.congr (fun j hj=>?_)⟩
        rw [HTE.out,HPC.out];have q0:=HF.out j;have p1:=HX7.out;have p2:=HX8.out;clear hn1 hn2
        by_cases ey:j=y1'
        · subst ey;rw [if_pos rfl,if_neg qO,if_pos rfl];omega
        · rw [if_neg ey]
          by_cases ez:j=z
          · subst ez;rw [if_pos rfl,if_pos rfl,if_neg qO];omega
          · rw [if_neg ez,if_neg qO,if_neg qO];omega
       case measure=>exact zaa3 hlt
  · obtain rfl:k=l.length:=by omega
    rw [List.take_length] at H;have hz:=H.e.kr.drop 1;rw [HDR.out] at hz;have HZ:=Lib.hid hz;clear hz
    by_cases e:m+1=1
    · have hsl:=HSL.out
      simp only [if_pos e] at hsl;go_wp2_with fail;go_ret;have hm0:m=0:=qO
      exact ⟨some ⟨X+1,0,none⟩,0,by rw [hm0];rfl,.inl (List.eq_nil_of_length_eq_zero (by have:=HPL.out;omega)),H.u⟩
    · have hsl:=HSL.out
      simp only [if_neg e] at hsl;go_wp2_with fail;go_ret
      exact ⟨_,_,rfl,HZ.out,H.u⟩
set_option maxHeartbeats 4000000
theorem KOwn.one1 (w:World) (B:Nat) (y:Wy) (hB:B≤w.heap.size):OwnW (w.alloc (.cells #[.int .i64 y.e,.int .i64 y.n,.int .i64 y.u] 109)) B (.slice (some ⟨w.heap.size,0,none⟩) 1 1) [y]:=by
 exact World.ownsRow_lit w #[.int .i64 y.e,.int .i64 y.n,.int .i64 y.u] 1 hB (by decide) rfl
theorem zasx (a:Option Addr) (c:Nat) (st:Int) (l:List Lg) (w:World) (hv:svOk ⟨st,l⟩=true) (hp:partsC ⟨st,l⟩≠1) (hs:Legs w a l):Calls Tryz.prog 108 #[.agg #[.int .i64 st,.slice a l.length c]] w (FixOut ⟨st,l⟩ w):=by
 obtain ⟨v1,v2,v3⟩:=st_in hv;simp only at v1 v2 v3
 have i1:=fun w h=>zaaa a c st l w qO h
 rw [hv] at i1
 have i2:=fun w h=>zaed a c st l w hv h
 have hL:linked ⟨st,l⟩=false:=by simp [linked,hp]
 have hp2:(partsC ⟨st,l⟩ != 1)=true:=by simpa using hp
 obtain ⟨p,hpe⟩:=qN (partsC ⟨st,l⟩);rw [hpe] at i2 hp hp2;unfold FixOut;rw [hL];clear hpe hL hv
 go_enter Tryz.func108,Tryz.ntmps108
 go_wp2_with fail;refine (i1 _ (hs.below qBl)).mono ?_;rintro e w1 ⟨rfl,b1⟩;obtain ⟨X,hX⟩:=qN (w.heap.size);have F1:At w1 X [.int .i64 st,.slice a l.length c]:=((At.new _ #[.int .i64 st,.slice a l.length c] 25 hX.symm rfl).alloc _).below b1;have R1:At w1 (X+1) [.int .i64 0,.slice none 0 0]:=(At.new _ #[.int .i64 0,.slice none 0 0] 129 (by simp [hX]) rfl).below b1;have hb:Below w.heap.size w w1:=Below.trans qBl (b1.mono (by simp;omega));rw [hX];clear b1;obtain ⟨y,y0,y1,-⟩:=id F1.facts2;go_wp2_with fail;refine (i2 _ (hs.below hb)).mono ?_;rintro e w2 ⟨rfl,b2⟩;have R2:=R1.below b2;replace hb:=hb.trans (b2.mono hb.size);clear b2 y y0 y1 F1 R1;obtain ⟨r,r0,r1,rf⟩:=id R2.facts2;go_wp2_with fail;refine bodyPost_ret (v:=.tuple #[.agg #[.int .i64 0,.slice none 0 0],.bool false]) (by simp [results,Tryz.results108,go_sem,r,r0,r1]) rfl ?_
 exact ⟨0,[],none,0,rfl,KOwn.nil,(fun h=>by cases h),(hb.setCell (p:=⟨X+1,0,none⟩) (by show w.heap.size≤X+1;omega) _).setCell (p:=⟨X+1,1,none⟩) (by show w.heap.size≤X+1;omega) _⟩
theorem zaq4 (a:Option Addr) (c:Nat) (st:Int) (l:List Lg) (w:World) (hv:svOk ⟨st,l⟩=true) (hp:partsC ⟨st,l⟩=1) (hs:Legs w a l):Calls Tryz.prog 108 #[.agg #[.int .i64 st,.slice a l.length c]] w (FixOut ⟨st,l⟩ w):=by
 obtain ⟨v1,v2,v3⟩:=st_in hv;have hv0:=Lib.hid hv;simp only at v1 v2 v3
 have i1:=fun w h=>zaaa a c st l w qO h
 rw [hv] at i1
 have i2:=fun w h=>zaed a c st l w hv h
 have hL:linked ⟨st,l⟩=true:=by simp [linked,hp,hv]
 have HLK:=Lib.hid hL;have hTP:=zamc hL
 have HTF:Hid (treesF ⟨st,l⟩=detL (linkM l (st.toNat - 1))):=by show _=_;unfold treesF;rw [if_pos hv]
 have hMV:=zagn hv;simp only at hMV
 have i3:=fun w h=>zaj7 a c st l w hv h
 have HIN:=Lib.hid (fun k (hk:k<l.length)=>zafc hv hk)
 have HPU:=Lib.hid (fun k (hk:k<l.length)=>zabj hv _ (zaaf hk))
 have hpl:∀ f:Lg→Int,(f=Lg.east∨f=Lg.north∨f=Lg.up)→∀ x ∈ pullL f l (st.toNat - 1),-999≤x∧x≤999:=fun f hf x hx=>by
  have h1:=zajh (f:=f) v3 (fun g hg=>by
   have h3:=(zacb hv g hg).2;have h4:=zabj hv g hg
   rcases hf with rfl|rfl|rfl
   · exact ⟨h3,h4.1⟩
   · exact ⟨h3,h4.2.1⟩
   · exact ⟨h3,h4.2.2⟩) x hx
  omega
 have i4:=fun (f:Lg→Int) hf a ra c rc w h1 h2=>zasu a ra c rc (linkM l (st.toNat - 1)) (pullL f l (st.toNat - 1)) w hMV (by rw [zafw,zaar]) (hpl f hf) (by rw [← HTF.out];omega) h1 h2
 simp only [zaar] at i4;rw [← HTF.out] at i4;have HFN:Hid (fixNums ⟨st,l⟩=⟨0,0,0⟩ :: (List.range (st.toNat - 1)).map (fixW ⟨st,l⟩)):=rfl
 have HFW:=Lib.hid (fun i=>show fixW ⟨st,l⟩ i=⟨nth (solveL (linkM l (st.toNat - 1)) (pullL Lg.east l (st.toNat - 1))) i,nth (solveL (linkM l (st.toNat - 1)) (pullL Lg.north l (st.toNat - 1))) i,nth (solveL (linkM l (st.toNat - 1)) (pullL Lg.up l (st.toNat - 1))) i⟩ from rfl)
 have HSL:=Lib.hid (fun f=>show (solveL (linkM l (st.toNat - 1)) (pullL f l (st.toNat - 1))).length=st.toNat - 1 by rw [zadz,zaar])
 have HBD:=Lib.hid (fun (f:Lg→Int) (hf:f=Lg.east∨f=Lg.north∨f=Lg.up) (k:Nat) (b:Int)=>show -891≤pullN f (l.take k) b∧pullN f (l.take k) b≤891 by
  have h:=zaek (f:=f) (l:=l.take k) b (fun g hg=>by
   have hg:=List.mem_of_mem_take hg;have h3:=(zacb hv g hg).2;have h4:=zabj hv g hg
   rcases hf with rfl|rfl|rfl
   · exact ⟨h3,h4.1⟩
   · exact ⟨h3,h4.2.1⟩
   · exact ⟨h3,h4.2.2⟩)
  have h5:(l.take k).length≤9:=by simp only [List.length_take];omega
  omega)
 unfold FixOut;rw [hL];obtain ⟨m,hm⟩:=qN (st.toNat - 1);have hm0:=Lib.hid hm;rw [hm] at HIN i3 i4 HFN HFW HSL;have hst1:st=(m:Int)+1:=qO
 have hst:IntKind.i64.wrap (st - 1)=(m:Int):=by rw [show st - 1=(m:Int) by omega];exact IntWalk.i64_in _ qO
 have hm5:m≤5:=qO;have HST:=Lib.hid hst1;have HLL:=Lib.hid v3
 have mi:=fun W=>zacm m qO W
 have nn:(0:Int)≤(m:Int):=qO
 have MK:Hid (∀ W,(Instr.makeSlice 127 (.int .i64 st) (.int .i64 st)).run Tryz.prog W=.ok (.slice (some ⟨W.heap.size,0,none⟩) (m+1) (m+1)) (W.alloc (.cells (madeCells #[.int .i64 0,.int .i64 0,.int .i64 0] ((m+1)*3)) 109))):=fun W=>by
  have h:=zaj9 (m+1) qO W
  rwa [show ((m+1:Nat):Int)=st by omega] at h
 rw [hp] at i2
 have hls:∀ b o,a=some ⟨b,o,none⟩→0<l.length→b<w.heap.size:=fun b o e h0=>by rw [e] at hs;exact hs.lt h0
 obtain ⟨d,hd⟩:=qN (treesF ⟨st,l⟩);obtain ⟨M,hM⟩:=qN (linkM l m);rw [hd] at i4 ⊢
 have HML:Hid (M.length=m):=by show _=_;rw [← hM,zaar]
 rw [hM] at i3 i4 HFW HSL;have I4:=Lib.hid i4;have I3:=Lib.hid i3;have MI:=Lib.hid mi
 have HFL:Hid ((fixNums ⟨st,l⟩).length=m+1):=by show _=_;rw [HFN.out];simp
 have HFT:=Lib.hid (fun q (h:q<m)=>show (fixNums ⟨st,l⟩).take (q+1+1)=(fixNums ⟨st,l⟩).take (q+1) ++ [fixW ⟨st,l⟩ q] by
  rw [zabc (by rw [HFL.out];omega)]
  congr 2
  rw [HFN.out]
  have:q<(List.range m).length:=by simpa using h
  simp [nth,h])
 clear hd hM hpl hMV hTP HTF hL hv hp hm i4 i3 mi hst1
 have I5:=Lib.hid (fun (dir:Nat) (f:Lg→Int) hd w h=>zaq3 a c st l dir f w hv0.out hd h)
 simp only [hm0.out] at I5
 go_enter Tryz.func108,Tryz.ntmps108
 go_wp2_with fail;refine (i1 _ (hs.below qBl)).mono ?_;rintro e w1 ⟨rfl,b1⟩;obtain ⟨X,hX⟩:=qN (w.heap.size);have F1:At w1 X [.int .i64 st,.slice a l.length c]:=((At.new _ #[.int .i64 st,.slice a l.length c] 25 hX.symm rfl).alloc _).below b1;have R1:At w1 (X+1) [.int .i64 0,.slice none 0 0]:=(At.new _ #[.int .i64 0,.slice none 0 0] 129 (by simp [hX]) rfl).below b1;have hb:Below w.heap.size w w1:=Below.trans qBl (b1.mono (by simp;omega));rw [hX];clear b1;obtain ⟨y,y0,y1,-⟩:=id F1.facts2;go_wp2_with fail;refine (i2 _ (hs.below hb)).mono ?_;rintro e w2 ⟨rfl,b2⟩;have F2:=F1.below b2;have R2:=R1.below b2;replace hb:=hb.trans (b2.mono hb.size);clear b2 y y0 y1 F1 R1 i1 i2;obtain ⟨y,y0,y1,-⟩:=id F2.facts2;have i3:=I3.out;go_wp2_with fail;refine (i3 _ (hs.below hb)).mono ?_;rintro e w3 ⟨v,hds,rfl,oM,b3⟩;obtain ⟨av,cv,rfl⟩:=oM.len' HML.out;have F3:=F2.below b3;have R3:=R2.below b3;replace hb:=hb.trans (b3.mono hb.size);have oMr:=oM.rd;clear b3 y y0 y1 F2 R2 i3 oM;obtain ⟨y,y0,y1,-⟩:=id F3.facts2
 have i5:=fun w h=>I5.out 0 Lg.east (.inl ⟨rfl,rfl⟩) w h
 go_wp2_with fail;refine (i5 _ (hs.below hb)).mono ?_;rintro e w4 ⟨ar,cr,rfl,zr,b4⟩;have F4:=F3.below b4;have R4:=R3.below b4;replace hb:=hb.trans (b4.mono hb.size);replace oMr:=oMr.below b4;clear b4 i5 y y0 y1
 have i4:=fun a c rc w h1 h2=>I4.out Lg.east (.inl rfl) a ar c rc w h1 h2
 go_wp2_with fail;refine (i4 _ _ _ _ oMr zr).mono ?_;rintro e w5 ⟨S1,sc1,rfl,oS,b5⟩;have F5:=F4.below b5;have R5:=R4.below b5;replace hb:=hb.trans (b5.mono hb.size);replace oMr:=oMr.below b5;have p1:Zs w5 S1 (solveL M (pullL Lg.east l m)):=oS.kr;clear b5 i4 zr oS;obtain ⟨y,y0,y1,-⟩:=id F5.facts2
 have i5:=fun w h=>I5.out 1 Lg.north (.inr (.inl ⟨rfl,rfl⟩)) w h
 go_wp2_with fail;refine (i5 _ (hs.below hb)).mono ?_;rintro e w6 ⟨ar,cr,rfl,zr,b6⟩;have F6:=F5.below b6;have R6:=R5.below b6;replace hb:=hb.trans (b6.mono hb.size);replace oMr:=oMr.below b6;replace p1:=p1.below b6;clear b6 i5 y y0 y1
 have i4:=fun a c rc w h1 h2=>I4.out Lg.north (.inr (.inl rfl)) a ar c rc w h1 h2
 go_wp2_with fail;refine (i4 _ _ _ _ oMr zr).mono ?_;rintro e w7 ⟨S2,sc2,rfl,oS,b7⟩;have F7:=F6.below b7;have R7:=R6.below b7;replace hb:=hb.trans (b7.mono hb.size);replace oMr:=oMr.below b7;replace p1:=p1.below b7;have p2:Zs w7 S2 (solveL M (pullL Lg.north l m)):=oS.kr;clear b7 i4 zr oS;obtain ⟨y,y0,y1,-⟩:=id F7.facts2
 have i5:=fun w h=>I5.out 2 Lg.up (.inr (.inr ⟨rfl,rfl⟩)) w h
 go_wp2_with fail;refine (i5 _ (hs.below hb)).mono ?_;rintro e w8 ⟨ar,cr,rfl,zr,b8⟩;have F8:=F7.below b8;have R8:=R7.below b8;replace hb:=hb.trans (b8.mono hb.size);replace oMr:=oMr.below b8;replace p1:=p1.below b8;replace p2:=p2.below b8;clear b8 i5 y y0 y1
 have i4:=fun a c rc w h1 h2=>I4.out Lg.up (.inr (.inr rfl)) a ar c rc w h1 h2
 go_wp2_with fail;refine (i4 _ _ _ _ oMr zr).mono ?_;rintro e w9 ⟨S3,sc3,rfl,oS,b9⟩;have F9:=F8.below b9;have R9:=R8.below b9;replace hb:=hb.trans (b9.mono hb.size);replace oMr:=oMr.below b9;replace p1:=p1.below b9;replace p2:=p2.below b9;have p3:Zs w9 S3 (solveL M (pullL Lg.up l m)):=oS.kr;clear b9 i4 zr oS;have hwX:w.heap.size≤X+1:=qO;have hXl:=R9.lt;clear F3 F4 F5 F6 F7 F8 F9 R3 R4 R5 R6 R7 R8 oMr hX;obtain ⟨B,hB⟩:=qN (w9.heap.size)
 have h0:OwnW ((w9.alloc (.cells #[.int .i64 0,.int .i64 0,.int .i64 0] 109)).alloc (.cells #[.int .i64 d,.slice (some ⟨B,0,none⟩) 1 1] 129)) B (.slice (some ⟨B,0,none⟩) (0+1) 1) ((fixNums ⟨st,l⟩).take (0+1)):=by
  have h1:=KOwn.one1 w9 B ⟨0,0,0⟩ qO;rw [hB] at h1;rw [HFN.out]
  exact h1.alloc _
 have hY:At ((w9.alloc (.cells #[.int .i64 0,.int .i64 0,.int .i64 0] 109)).alloc (.cells #[.int .i64 d,.slice (some ⟨B,0,none⟩) 1 1] 129)) (B+1) [.int .i64 d,.slice (some ⟨B,0,none⟩) (0+1) 1]:=At.new _ _ _ (by simp [hB]) rfl;have hbB:Below B w9 ((w9.alloc (.cells #[.int .i64 0,.int .i64 0,.int .i64 0] 109)).alloc (.cells #[.int .i64 d,.slice (some ⟨B,0,none⟩) 1 1] 129)):=qBl;go_wp2_with fail
 try rw [hB]
 go_loopw [12] (fun i wr=>∃ (q:Nat) (av:Option Addr) (cv:Nat),q≤m∧i=.int .i64 q∧At wr (B+1) [.int .i64 d,.slice av (q+1) cv]∧OwnW wr B (.slice av (q+1) cv) ((fixNums ⟨st,l⟩).take (q+1))∧(Value.slice av (q+1) cv).ownBlock≠some (B+1)∧Below B w9 wr) (fun i _=>m - (intOf i).toNat)
 case atStart=>exact ⟨0,_,_,by omega,rfl,hY,h0,fun e=>by have:B=B+1:=by simp [Value.ownBlock] at e
                                                         omega,hbB⟩
 case round =>
  clear h0 hY hbB;obtain ⟨q,av,cv,hq,rfl,hY,ho,hne,hbq⟩:=hrel;obtain ⟨yy,yy0,yy1,yyf⟩:=id hY.facts2;have hBz:=hbq.size
  by_cases hlt:q<m
  · have hbq':Below w9.heap.size w9 wr:=by rw [hB];exact hbq
    obtain ⟨b1,f1,rfl,g1,c1⟩:=Zs.at p1 (k:=q) (by rw [HSL.out];exact hlt);obtain ⟨b2,f2,rfl,g2,c2⟩:=Zs.at p2 (k:=q) (by rw [HSL.out];exact hlt);obtain ⟨b3,f3,rfl,g3,c3⟩:=Zs.at p3 (k:=q) (by rw [HSL.out];exact hlt);replace c1:=(hbq'.cell (p:=⟨b1,f1+q,none⟩) g1).trans c1;replace c2:=(hbq'.cell (p:=⟨b2,f2+q,none⟩) g2).trans c2;replace c3:=(hbq'.cell (p:=⟨b3,f3+q,none⟩) g3).trans c3;have hfw:=HFW.out q;obtain ⟨x1,hx1⟩:=qN (nth (solveL M (pullL Lg.east l m)) q);obtain ⟨x2,hx2⟩:=qN (nth (solveL M (pullL Lg.north l m)) q);obtain ⟨x3,hx3⟩:=qN (nth (solveL M (pullL Lg.up l m)) q);rw [hx1] at c1 hfw;rw [hx2] at c2 hfw;rw [hx3] at c3 hfw;have hft:=HFT.out q hlt;rw [hfw] at hft;clear hx1 hx2 hx3 hfw;obtain ⟨ns,hns⟩:=qN ((fixNums ⟨st,l⟩).take (q+1))
    have hnl:ns.length=q+1:=by rw [← hns,List.length_take,HFL.out];omega
    rw [hns] at ho hft;have HFTQ:=Lib.hid hft;have HNL:=Lib.hid hnl;clear hns hft hnl hbq';have hq2:(q:Int)<(m:Int):=qO;rw [hB] at g1 g2 g3;go_upto_region 11 with fail;clear p1 p2 p3;have hidx:(0:Int)≤(q:Int):=qO
    refine wp_region_held_drew (S:=fun w'=>w'.cell? ⟨b1,f1+q,none⟩=some (.int .i64 x1)∧w'.cell? ⟨b2,f2+q,none⟩=some (.int .i64 x2)∧w'.cell? ⟨b3,f3+q,none⟩=some (.int .i64 x3)) (by kernel_rfl) ⟨c1,c2,c3⟩ (fun hHeld=>?_)
    refine wpAnyH_take (i:=0) (oi:=_) (v:=?_) rfl (by kernel_rfl) (by kernel_rfl) (by kernel_rfl) (fun _ _ _ h=>h) (Or.inl ⟨by rfl,?_⟩) (by assumption) ?_
    rotate_left
    focus (intro w' hSw;(try dsimp only at hSw);first|(go_simp;done)|(go_simp;with_reducible rfl))
    try simp only [Act.put,List.setIfInBounds_toArray,List.set_cons_zero,List.set_cons_succ]
    refine wpAnyH_take (i:=2) (oi:=_) (v:=?_) rfl (by kernel_rfl) (by kernel_rfl) (by kernel_rfl) (fun _ _ _ h=>h) (Or.inl ⟨by rfl,?_⟩) (by assumption) ?_
    rotate_left
    focus (intro w' hSw;(try dsimp only at hSw);first|(go_simp;done)|(go_simp;with_reducible rfl))
    try simp only [Act.put,List.setIfInBounds_toArray,List.set_cons_zero,List.set_cons_succ]
    refine wpAnyH_take (i:=3) (oi:=_) (v:=?_) rfl (by kernel_rfl) (by kernel_rfl) (by kernel_rfl) (fun _ _ _ h=>h) (Or.inl ⟨by rfl,?_⟩) (by assumption) ?_
    rotate_left
    focus (intro w' hSw;(try dsimp only at hSw);first|(go_simp;done)|(go_simp;with_reducible rfl))
    try simp only [Act.put,List.setIfInBounds_toArray,List.set_cons_zero,List.set_cons_succ]
    refine wpAnyH_take (i:=4) (oi:=_) (v:=?_) rfl (by kernel_rfl) (by kernel_rfl) (by kernel_rfl) (fun _ _ _ h=>h) (Or.inl ⟨by rfl,?_⟩) (by assumption) ?_
    rotate_left
    focus (intro w' hSw;(try dsimp only at hSw);first|(go_simp;done)|(go_simp;with_reducible rfl))
    try simp only [Act.put,List.setIfInBounds_toArray,List.set_cons_zero,List.set_cons_succ]
    refine wpAnyH_take (i:=5) (oi:=_) (v:=?_) rfl (by kernel_rfl) (by kernel_rfl) (by kernel_rfl) (fun _ _ _ h=>h) (Or.inl ⟨by rfl,?_⟩) (by assumption) ?_
    rotate_left
    focus (intro w' hSw;(try dsimp only at hSw);first|(go_simp;done)|(go_simp;with_reducible rfl))
    try simp only [Act.put,List.setIfInBounds_toArray,List.set_cons_zero,List.set_cons_succ]
    refine wpAnyH_take (i:=6) (oi:=_) (v:=?_) rfl (by kernel_rfl) (by kernel_rfl) (by kernel_rfl) (fun _ _ _ h=>h) (Or.inl ⟨by rfl,?_⟩) (by assumption) ?_
    rotate_left
    focus (intro w' hSw;(try dsimp only at hSw);first|(go_simp;done)|(go_simp;with_reducible rfl))
    try simp only [Act.put,List.setIfInBounds_toArray,List.set_cons_zero,List.set_cons_succ]
    refine wpAnyH_take (i:=7) (oi:=_) (v:=?_) rfl (by kernel_rfl) (by kernel_rfl) (by kernel_rfl) (fun _ _ _ h=>h) (Or.inl ⟨by rfl,?_⟩) (by assumption) ?_
    rotate_left
    focus (intro w' hSw;(try dsimp only at hSw);first|(go_simp;done)|(go_simp;with_reducible rfl))
    try simp only [Act.put,List.setIfInBounds_toArray,List.set_cons_zero,List.set_cons_succ]
    refine wpAnyH_take (i:=8) (oi:=_) (v:=?_) rfl (by kernel_rfl) (by kernel_rfl) (by kernel_rfl) (fun _ _ _ h=>h) (Or.inl ⟨by rfl,?_⟩) (by assumption) ?_
    rotate_left
    focus (intro w' hSw;(try dsimp only at hSw);first|(go_simp;done)|(go_simp;with_reducible rfl))
    try simp only [Act.put,List.setIfInBounds_toArray,List.set_cons_zero,List.set_cons_succ]
    refine wpAnyH_take (i:=9) (oi:=_) (v:=?_) rfl (by kernel_rfl) (by kernel_rfl) (by kernel_rfl) (fun _ _ _ h=>h) (Or.inl ⟨by rfl,?_⟩) (by assumption) ?_
    rotate_left
    focus (intro w' hSw;(try dsimp only at hSw);first|(go_simp;done)|(go_simp;with_reducible rfl))
    try simp only [Act.put,List.setIfInBounds_toArray,List.set_cons_zero,List.set_cons_succ]
    refine wpAnyH_take (i:=10) (oi:=_) (v:=?_) rfl (by kernel_rfl) (by kernel_rfl) (by kernel_rfl) (fun _ _ _ h=>h) (Or.inl ⟨by rfl,?_⟩) (by assumption) ?_
    rotate_left
    focus (intro w' hSw;(try dsimp only at hSw);first|(go_simp;done)|(go_simp;with_reducible rfl))
    try simp only [Act.put,List.setIfInBounds_toArray,List.set_cons_zero,List.set_cons_succ]
    refine wpAnyH_take (i:=11) (oi:=_) (v:=?_) rfl (by kernel_rfl) (by kernel_rfl) (by kernel_rfl) (fun _ _ _ h=>h) (Or.inl ⟨by rfl,?_⟩) (by assumption) ?_
    rotate_left
    focus (intro w' hSw;(try dsimp only at hSw);first|(go_simp;done)|(go_simp;with_reducible rfl))
    try simp only [Act.put,List.setIfInBounds_toArray,List.set_cons_zero,List.set_cons_succ]
    refine wpAnyH_take (i:=12) (oi:=_) (v:=?_) rfl (by kernel_rfl) (by kernel_rfl) (by kernel_rfl) (fun _ _ _ h=>h) (Or.inl ⟨by rfl,?_⟩) (by assumption) ?_
    rotate_left
    focus (intro w' hSw;(try dsimp only at hSw);first|(go_simp;done)|(go_simp;with_reducible rfl))
    try simp only [Act.put,List.setIfInBounds_toArray,List.set_cons_zero,List.set_cons_succ]
    refine wpAnyH_take (i:=13) (oi:=_) (v:=?_) rfl (by kernel_rfl) (by kernel_rfl) (by kernel_rfl) (fun _ _ _ h=>h) (Or.inl ⟨by rfl,?_⟩) (by assumption) ?_
    rotate_left
    focus (intro w' hSw;(try dsimp only at hSw);first|(go_simp;done)|(go_simp;with_reducible rfl))
    try simp only [Act.put,List.setIfInBounds_toArray,List.set_cons_zero,List.set_cons_succ]
    refine wpAnyH_take (i:=14) (oi:=_) (v:=?_) rfl (by kernel_rfl) (by kernel_rfl) (by kernel_rfl) (fun _ _ _ h=>h) (Or.inl ⟨by rfl,?_⟩) (by assumption) ?_
    rotate_left
    focus (intro w' hSw;(try dsimp only at hSw);first|(go_simp;done)|(go_simp;with_reducible rfl))
    try simp only [Act.put,List.setIfInBounds_toArray,List.set_cons_zero,List.set_cons_succ]
    refine wpAnyH_ready (rs:=[1,15]) (by kernel_rfl) qP ?_
    refine AllReadyH.cons (o:=_) rfl (fun K hK=>?_) ?_
    · go_simp
      refine hK.out _ _ ⟨by first|assumption|go_keep,by first|assumption|go_keep,by first|assumption|go_keep⟩ (fun hHeld=>?_)
      clear hK K
      try simp only [Act.put,List.setIfInBounds_toArray,List.set_cons_zero,List.set_cons_succ]
      refine wpAnyH_ready (rs:=[15]) (by kernel_rfl) qP ?_
      refine AllReadyH.cons (o:=_) rfl (fun K hK=>?_) ?_
      · go_simp
        refine hK.out _ _ ⟨by first|assumption|go_keep,by first|assumption|go_keep,by first|assumption|go_keep⟩ (fun hHeld=>?_)
        clear hK K
        try simp only [Act.put,List.setIfInBounds_toArray,List.set_cons_zero,List.set_cons_succ]
        refine wpAnyH_ready (rs:=[16]) (by kernel_rfl) qP ?_
        refine AllReadyH.cons (o:=_) rfl (fun K hK=>?_) ?_
        · refine zac8 wyI (.tmp 56) (.tmp 70) (by rfl) (by rfl) B _ ns [⟨x1,x2,x3⟩] (ns ++ [⟨x1,x2,x3⟩]) rfl 1 rfl (q+1+1) (by rw [List.length_append,HNL.out];rfl) _ 1 (by rfl) (ho.below qHb) (by rfl) (by first|exact zaj8 _ _ _|exact (zaj8 _ _ _).below ((Below.refl _ _).drew)) (by have:=HNL.out;omega) qP qSo ?_
          rintro av9 cv9 w10 o9 g9 b9 h9;have b39:Below B wr w10:=Below.trans qHb b9
          have Y9:=(hY.below (w':=_) qHb).wr (Wr.ofGrown g9 (fun k h=>h)) hne
          obtain ⟨zz,zz0,zz1,zzf⟩:=id Y9.facts2;have c1':=(b39.cell (p:=⟨b1,f1+q,none⟩) g1).trans c1;have c2':=(b39.cell (p:=⟨b2,f2+q,none⟩) g2).trans c2;have c3':=(b39.cell (p:=⟨b3,f3+q,none⟩) g3).trans c3
          refine hK.out _ _ ⟨c1',c2',c3'⟩ (fun hHeld=>?_)
          clear hK K
          try simp only [Act.put,List.setIfInBounds_toArray,List.set_cons_zero,List.set_cons_succ]
          refine wpAnyH_take (i:=17) (oi:=_) (v:=?_) rfl (by kernel_rfl) (by kernel_rfl) (by kernel_rfl) (fun _ _ _ h=>h) (Or.inl ⟨by rfl,?_⟩) (by assumption) ?_
          rotate_left
          focus (intro w' hSw;(try dsimp only at hSw);first|(go_simp;done)|(go_simp;with_reducible rfl))
          try simp only [Act.put,List.setIfInBounds_toArray,List.set_cons_zero,List.set_cons_succ]
          refine wpAnyH_ready (rs:=[18]) (by kernel_rfl) qP ?_
          refine AllReadyH.cons (o:=_) rfl (fun K hK=>?_) ?_
          · go_simp
            refine hK.out _ _ ⟨by rw [World.cell?_setCell_other _ _ _ _ (by intro e;injection e;omega)];exact c1',by rw [World.cell?_setCell_other _ _ _ _ (by intro e;injection e;omega)];exact c2',by rw [World.cell?_setCell_other _ _ _ _ (by intro e;injection e;omega)];exact c3'⟩ (fun hHeld=>?_)
            clear hK K
            try simp only [Act.put,List.setIfInBounds_toArray,List.set_cons_zero,List.set_cons_succ]
            refine wpAnyH_done (by kernel_rfl) ?_ _;go_wp2_with fail;go_roundw
            case rel =>
             refine ⟨q+1,av9,cv9,by omega,by go_num,(Y9.set 1 (.slice av9 (q+1+1) cv9)),?_,?_,?_⟩
             · rw [HFTQ.out]
               exact o9.setOther (p:=⟨B+1,1,none⟩) (fun e=>by
                rcases h9 _ e with h|h
                · exact hne h
                · have:wr.heap.size+1=B+1:=by simpa using h.symm
                  omega) _
             · intro e
               rcases h9 _ e with h|h
               · exact hne h
               · have:wr.heap.size+1=B+1:=by simpa using h.symm
                 omega
             · exact (hbq.trans b39).setCell (p:=⟨B+1,1,none⟩) (by show B≤B+1;omega) _
            case measure=>exact zaa3 hlt
          exact AllReadyH.nil
        exact AllReadyH.nil
      exact AllReadyH.nil
    refine AllReadyH.cons (o:=_) rfl (fun K hK=>?_) ?_
    · go_simp
      refine hK.out _ _ ⟨by first|assumption|go_keep,by first|assumption|go_keep,by first|assumption|go_keep⟩ (fun hHeld=>?_)
      clear hK K
      try simp only [Act.put,List.setIfInBounds_toArray,List.set_cons_zero,List.set_cons_succ]
      refine wpAnyH_ready (rs:=[1]) (by kernel_rfl) qP ?_
      refine AllReadyH.cons (o:=_) rfl (fun K hK=>?_) ?_
      · go_simp
        refine hK.out _ _ ⟨by first|assumption|go_keep,by first|assumption|go_keep,by first|assumption|go_keep⟩ (fun hHeld=>?_)
        clear hK K
        try simp only [Act.put,List.setIfInBounds_toArray,List.set_cons_zero,List.set_cons_succ]
        refine wpAnyH_ready (rs:=[16]) (by kernel_rfl) qP ?_
        refine AllReadyH.cons (o:=_) rfl (fun K hK=>?_) ?_
        · refine zac8 wyI (.tmp 56) (.tmp 70) (by rfl) (by rfl) B _ ns [⟨x1,x2,x3⟩] (ns ++ [⟨x1,x2,x3⟩]) rfl 1 rfl (q+1+1) (by rw [List.length_append,HNL.out];rfl) _ 1 (by rfl) (ho.below qHb) (by rfl) (by first|exact zaj8 _ _ _|exact (zaj8 _ _ _).below ((Below.refl _ _).drew)) (by have:=HNL.out;omega) qP qSo ?_
          rintro av9 cv9 w10 o9 g9 b9 h9;have b39:Below B wr w10:=Below.trans qHb b9
          have Y9:=(hY.below (w':=_) qHb).wr (Wr.ofGrown g9 (fun k h=>h)) hne
          obtain ⟨zz,zz0,zz1,zzf⟩:=id Y9.facts2;have c1':=(b39.cell (p:=⟨b1,f1+q,none⟩) g1).trans c1;have c2':=(b39.cell (p:=⟨b2,f2+q,none⟩) g2).trans c2;have c3':=(b39.cell (p:=⟨b3,f3+q,none⟩) g3).trans c3
          refine hK.out _ _ ⟨c1',c2',c3'⟩ (fun hHeld=>?_)
          clear hK K
          try simp only [Act.put,List.setIfInBounds_toArray,List.set_cons_zero,List.set_cons_succ]
          refine wpAnyH_take (i:=17) (oi:=_) (v:=?_) rfl (by kernel_rfl) (by kernel_rfl) (by kernel_rfl) (fun _ _ _ h=>h) (Or.inl ⟨by rfl,?_⟩) (by assumption) ?_
          rotate_left
          focus (intro w' hSw;(try dsimp only at hSw);first|(go_simp;done)|(go_simp;with_reducible rfl))
          try simp only [Act.put,List.setIfInBounds_toArray,List.set_cons_zero,List.set_cons_succ]
          refine wpAnyH_ready (rs:=[18]) (by kernel_rfl) qP ?_
          refine AllReadyH.cons (o:=_) rfl (fun K hK=>?_) ?_
          · go_simp
            refine hK.out _ _ ⟨by rw [World.cell?_setCell_other _ _ _ _ (by intro e;injection e;omega)];exact c1',by rw [World.cell?_setCell_other _ _ _ _ (by intro e;injection e;omega)];exact c2',by rw [World.cell?_setCell_other _ _ _ _ (by intro e;injection e;omega)];exact c3'⟩ (fun hHeld=>?_)
            clear hK K
            try simp only [Act.put,List.setIfInBounds_toArray,List.set_cons_zero,List.set_cons_succ]
            refine wpAnyH_done (by kernel_rfl) ?_ _;go_wp2_with fail;go_roundw
            case rel =>
             refine ⟨q+1,av9,cv9,by omega,by go_num,(Y9.set 1 (.slice av9 (q+1+1) cv9)),?_,?_,?_⟩
             · rw [HFTQ.out]
               exact o9.setOther (p:=⟨B+1,1,none⟩) (fun e=>by
                rcases h9 _ e with h|h
                · exact hne h
                · have:wr.heap.size+1=B+1:=by simpa using h.symm
                  omega) _
             · intro e
               rcases h9 _ e with h|h
               · exact hne h
               · have:wr.heap.size+1=B+1:=by simpa using h.symm
                 omega
             · exact (hbq.trans b39).setCell (p:=⟨B+1,1,none⟩) (by show B≤B+1;omega) _
            case measure=>exact zaa3 hlt
          exact AllReadyH.nil
        exact AllReadyH.nil
      exact AllReadyH.nil
    exact AllReadyH.nil
  · obtain rfl:q=m:=by omega
    have hfin:(fixNums ⟨st,l⟩).take (q+1)=fixNums ⟨st,l⟩:=by
     have:=List.take_length (l:=fixNums ⟨st,l⟩)
     rwa [HFL.out] at this
    rw [hfin] at ho;have HFL2:=HFL;have hbw:Below w.heap.size w wr:=hb.trans (hbq.mono (by have:=hb.size;omega));have hR:=R9.belowB hbq qO;obtain ⟨r,r0,r1,rf⟩:=id hR.facts2;have hXB:X+1≠B+1:=qO;clear hfin p1 p2 p3 hlt;go_wp2_with fail;refine bodyPost_ret (v:=.tuple #[.agg #[.int .i64 d,.slice av (q+1) cv],.bool true]) (by simp [results,Tryz.results108,go_sem,r,r0,r1]) rfl ?_
    refine ⟨d,fixNums ⟨st,l⟩,av,cv,by rw [HFL2.out],?_,fun _=>⟨rfl,rfl⟩,(hbw.setCell (p:=⟨X+1,0,none⟩) (by show w.heap.size≤X+1;omega) _).setCell (p:=⟨X+1,1,none⟩) (by show w.heap.size≤X+1;omega) _⟩
    rw [HFL2.out]
    exact ((ho.setCell (p:=⟨X+1,0,none⟩) (by show X+1<B;omega) _).setCell (p:=⟨X+1,1,none⟩) (by show X+1<B;omega) _).mono (by have:=hb.size;omega)
end Go.Proofs.YthfoloefkfadlaaGreatDoor
