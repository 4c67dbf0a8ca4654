/- Walks: matrices of links, impl (addLink, Links, TreesMany). -/
import Derived.Test.YthfoloefkfadlaaGreatDoorM1
import Derived.Test.YthfoloefkfadlaaGreatDoorK3
import Derived.Test.YthfoloefkfadlaaGreatDoorF1
set_option linter.unusedSimpArgs false
set_option linter.unusedVariables false
set_option maxHeartbeats 1000000
set_option maxRecDepth 100000
namespace Go.Proofs.YthfoloefkfadlaaGreatDoor
open Go Go.RowKit Go.Sort
def linkZ (a b i j:Int):Int:=if i=j then (if a=i∨b=i then 1 else 0) else -(if (a=i∧b=j)∨(a=j∧b=i) then 1 else 0)
theorem zav5 (g:Lg) (i j:Int):linkC g i j=linkZ g.frm g.to i j:=rfl
theorem MatO.congrF {w:World} {B:Nat} {v:Value} {hs:List Hd} {m:Nat} {F G:Nat→Nat→Int} (h:MatO w B v hs (matF m F)) (e:∀ i j,i<m→j<m→F i j=G i j):MatO w B v hs (matF m G):=by rw [← zasr e];exact h
theorem MatO.rowF {w:World} {B p cp m:Nat} {hs:List Hd} {F:Nat→Nat→Int} (h:MatO w B (.slice (some ⟨p,0,none⟩) m cp) hs (matF m F)) {r:Nat} (hr:r<m) :
 ∃ g cc,nth hs r=⟨some ⟨g,0,none⟩,m,cc⟩∧w.cell? ⟨p,r,none⟩=some (.slice (some ⟨g,0,none⟩) m cc)∧p≠g∧B≤g∧(∀ j,j<m→w.cell? ⟨g,j,none⟩=some (.int .i64 (F r j)))∧∀ j,j<m→w.frozen? ⟨g,j,none⟩=false:=by
 have hr':r<(matF m F).length:=by rw [zacn];exact hr
 obtain ⟨g,cc,eg,hBg,hgw,hgc,hgf⟩:=h.row_at hr;obtain ⟨q,cq,e0,-,-,c1,-⟩:=h.at hr';rw [zacn] at e0
 cases e0
 rw [eg] at c1
 exact ⟨g,cc,eg,c1,fun e=>h.apart r hr' g (by rw [eg];rfl) (by rw [e];rfl),hBg,hgc,hgf⟩
theorem bset {B:Nat} {w w':World} (h:Below B w w') {g:Nat} (hg:B≤g) (j:Nat) (v:Value):Below B w (w'.setCell ⟨g,j,none⟩ v):=h.setCell (p:=⟨g,j,none⟩) hg v
theorem zaq0 (B p cp m:Nat) (hs:List Hd) (F:Nat→Nat→Int) (a b:Int) (w:World) (hm:m≤5) (ha:0≤a∧a≤m) (hb:0≤b∧b≤m) (hne:a≠b) (hF:∀ i j,i<m→j<m→-100≤F i j∧F i j≤100) (ho:MatO w B (.slice (some ⟨p,0,none⟩) m cp) hs (matF m F)) :
 Calls Tryz.prog 183 #[.slice (some ⟨p,0,none⟩) m cp,.int .i64 a,.int .i64 b,.int .i64 1] w fun e w'=>e=.returned (.tuple #[])∧MatO w' B (.slice (some ⟨p,0,none⟩) m cp) hs (matF m fun i j=>F i j+linkZ a b ((i:Int)+1) ((j:Int)+1))∧Below B w w':=by
 have HF:=Lib.hid hF;have HO:=Lib.hid ho;clear hF
 by_cases ha0:a=0
 · subst ha0
   obtain ⟨y,hy⟩:∃ y:Nat,b=(y:Int)+1:=⟨(b - 1).toNat,by omega⟩;have hym:y<m:=qO;obtain ⟨g,cc,eg,c1,hpg,hBg,hgc,hgf⟩:=ho.rowF hym;have d1:=hgc y hym;have f1:=hgf y hym;have hx:=HF.out y y hym hym;obtain ⟨x,hxe⟩:=qN (F y y);rw [hxe] at d1 hx;have HX:=Lib.hid hxe;have HY:=Lib.hid hy;have HG:=Lib.hid eg
   have hw1:IntKind.i64.wrap (b - 1)=(y:Int):=by rw [hy,show (y:Int)+1 - 1=y by omega];exact IntWalk.i64_in _ qO
   have hw2:IntKind.i64.wrap (x+1)=x+1:=IntWalk.i64_in _ qO;have hb1:(0:Int)<b:=qO;have hb2:decide ((0:Int)<b)=true:=decide_eq_true hb1;have hym2:(y:Int)<(m:Int):=qO;have hgp:g≠p:=Ne.symm hpg;clear hgc hgf hxe hy eg ho
   go_enter Tryz.func183,Tryz.ntmps183
   go_wp2_with fail
   go_end0
   refine ⟨rfl,?_,bset (Below.refl _ _) hBg _ _⟩
   refine (HO.out.putF hym hym HG.out (x+1)).congrF fun i j hi hj=>?_
   have hy:=HY.out;have hx2:=HX.out;unfold updF linkZ
   by_cases e:i=y∧j=y
   · rw [if_pos e,if_pos qO,if_pos qO];obtain ⟨rfl,rfl⟩:=e;omega
   · rw [if_neg e]
     by_cases e2:(i:Int)+1=(j:Int)+1
     · rw [if_pos e2,if_neg qO];omega
     · rw [if_neg e2,if_neg qO];omega
 · obtain ⟨z,hz⟩:∃ z:Nat,a=(z:Int)+1:=⟨(a - 1).toNat,by omega⟩
   have hzm:z<m:=qO;obtain ⟨h,dd,eh,c2,hph,hBh,hhc,hhf⟩:=ho.rowF hzm
   have hv1:IntKind.i64.wrap (a - 1)=(z:Int):=by rw [hz,show (z:Int)+1 - 1=z by omega];exact IntWalk.i64_in _ qO
   have ha1:(0:Int)<a:=qO;have ha2:decide ((0:Int)<a)=true:=decide_eq_true ha1;have hzm2:(z:Int)<(m:Int):=qO;have hhp:h≠p:=Ne.symm hph;have d2:=hhc z hzm;have f2:=hhf z hzm;have hx:=HF.out z z hzm hzm;obtain ⟨x,hxe⟩:=qN (F z z);rw [hxe] at d2 hx;have HX:=Lib.hid hxe;have HZ:=Lib.hid hz;have HH:=Lib.hid eh;have hw2:IntKind.i64.wrap (x+1)=x+1:=IntWalk.i64_in _ qO;clear hxe hz eh
   by_cases hb0:b=0
   · subst hb0
     clear hhc hhf ho
     go_enter Tryz.func183,Tryz.ntmps183
     go_wp2_with fail
     go_end0
     refine ⟨rfl,?_,bset (Below.refl _ _) hBh _ _⟩
     refine (HO.out.putF hzm hzm HH.out (x+1)).congrF fun i j hi hj=>?_
     have hz:=HZ.out;have hx2:=HX.out;unfold updF linkZ
     by_cases e:i=z∧j=z
     · rw [if_pos e,if_pos qO,if_pos qO];obtain ⟨rfl,rfl⟩:=e;omega
     · rw [if_neg e]
       by_cases e2:(i:Int)+1=(j:Int)+1
       · rw [if_pos e2,if_neg qO];omega
       · rw [if_neg e2,if_neg qO];omega
   · obtain ⟨y,hy⟩:∃ y:Nat,b=(y:Int)+1:=⟨(b - 1).toNat,by omega⟩
     have hym:y<m:=qO;obtain ⟨g,cc,eg,c1,hpg,hBg,hgc,hgf⟩:=ho.rowF hym
     have hzy:z≠y:=by have:=HZ.out;omega
     have hyz:y≠z:=Ne.symm hzy
     have hgh:g≠h:=fun e=>hzy (ho.inj z y (by rw [zacn];exact hzm) (by rw [zacn];exact hym) h (by rw [HH.out];rfl) (by rw [eg,e];rfl))
     have hhg:h≠g:=Ne.symm hgh
     have hw1:IntKind.i64.wrap (b - 1)=(y:Int):=by rw [hy,show (y:Int)+1 - 1=y by omega];exact IntWalk.i64_in _ qO
     have hb1:(0:Int)<b:=qO;have hb2:decide ((0:Int)<b)=true:=decide_eq_true hb1;have hym2:(y:Int)<(m:Int):=qO;have hgp:g≠p:=Ne.symm hpg;have d1:=hgc y hym;have f1:=hgf y hym;have d3:=hhc y hym;have f3:=hhf y hym;have d4:=hgc z hzm;have f4:=hgf z hzm;have hx1:=HF.out y y hym hym;have hx3:=HF.out z y hzm hym;have hx4:=HF.out y z hym hzm;obtain ⟨x1,hxe1⟩:=qN (F y y);obtain ⟨x3,hxe3⟩:=qN (F z y);obtain ⟨x4,hxe4⟩:=qN (F y z);rw [hxe1] at d1 hx1;rw [hxe3] at d3 hx3;rw [hxe4] at d4 hx4;have HX1:=Lib.hid hxe1;have HX3:=Lib.hid hxe3;have HX4:=Lib.hid hxe4;have HY:=Lib.hid hy;have HG:=Lib.hid eg;have hw5:IntKind.i64.wrap (x1+1)=x1+1:=IntWalk.i64_in _ qO;have hw3:IntKind.i64.wrap (x3 - 1)=x3 - 1:=IntWalk.i64_in _ qO;have hw4:IntKind.i64.wrap (x4 - 1)=x4 - 1:=IntWalk.i64_in _ qO;clear hgc hgf hhc hhf hy eg ho hxe1 hxe3 hxe4
     go_enter Tryz.func183,Tryz.ntmps183
     go_wp2_with fail
     go_end0
     refine ⟨rfl,?_,bset (bset (bset (bset (Below.refl _ _) hBh _ _) hBg _ _) hBh _ _) hBg _ _⟩
     refine ((((HO.out.putF hzm hzm HH.out (x+1)).putF hym hym HG.out (x1+1)).putF hzm hym HH.out (x3 - 1)).putF hym hzm HG.out (x4 - 1)).congrF fun i j hi hj=>?_
     have hy:=HY.out;have hz:=HZ.out;have q1:=HX.out;have q2:=HX1.out;have q3:=HX3.out;have q4:=HX4.out;unfold updF linkZ
     by_cases e4:i=y∧j=z
     · rw [if_pos e4,if_neg qO,if_pos qO];obtain ⟨rfl,rfl⟩:=e4;omega
     · rw [if_neg e4]
       by_cases e3:i=z∧j=y
       · rw [if_pos e3,if_neg qO,if_pos qO];obtain ⟨rfl,rfl⟩:=e3;omega
       · rw [if_neg e3]
         by_cases e2:i=y∧j=y
         · rw [if_pos e2,if_pos qO,if_pos qO];obtain ⟨rfl,rfl⟩:=e2;omega
         · rw [if_neg e2]
           by_cases e1:i=z∧j=z
           · rw [if_pos e1,if_pos qO,if_pos qO];obtain ⟨rfl,rfl⟩:=e1;omega
           · rw [if_neg e1]
             by_cases e5:(i:Int)+1=(j:Int)+1
             · rw [if_pos e5,if_neg qO];omega
             · rw [if_neg e5,if_neg qO];omega
set_option maxHeartbeats 1000000
def MatOut (M:List (List Int)) (w:World) (e:Ending) (w':World):Prop:=∃ v hs,e=.returned v∧MatO w' w.heap.size v hs M∧Below w.heap.size w w'
theorem MatO.len' {w:World} {B:Nat} {v:Value} {hs:List Hd} {M:List (List Int)} (h:MatO w B v hs M) {m:Nat} (hm:M.length=m):∃ a c,v=.slice a m c:=by rw [← hm];exact h.sl
theorem zafc {st:Int} {l:List Lg} (hv:svOk ⟨st,l⟩=true) {k:Nat} (hk:k<l.length):(0≤(nth l k).frm∧(nth l k).frm≤((st.toNat - 1:Nat):Int))∧(0≤(nth l k).to∧(nth l k).to≤((st.toNat - 1:Nat):Int))∧(nth l k).frm≠(nth l k).to:=by
 have h:=zacb hv (nth l k) (zaaf hk);obtain ⟨⟨⟨h1,h2⟩,h3,h4⟩,h5⟩:=h;simp only at h2 h4
 exact ⟨⟨h1,by omega⟩,⟨h3,by omega⟩,h5⟩
theorem zass (l:List Lg) (m:Nat):linkM l m=matF m fun i j=>linkN l ((i:Int)+1) ((j:Int)+1):=rfl
theorem zamh (a:Option Addr) (c:Nat) (st:Int) (l:List Lg) (w:World) (hv:svOk ⟨st,l⟩=true) (hs:Legs w a l):Calls Tryz.prog 151 #[.agg #[.int .i64 st,.slice a l.length c]] w (MatOut (linkM l (st.toNat - 1)) w):=by
 obtain ⟨v1,v2,v3⟩:=st_in hv;simp only at v1 v2 v3
 have i1:=fun w h=>zaab a c st l w qO h
 rw [hv] at i1
 have HE:=Lib.hid (fun k hk=>zafc hv (k:=k) hk)
 obtain ⟨m,hm⟩:=qN (st.toNat - 1);rw [hm] at HE ⊢
 have hst:IntKind.i64.wrap (st - 1)=(m:Int):=by rw [show st - 1=(m:Int) by omega];exact IntWalk.i64_in _ qO
 have hm5:m≤5:=qO;clear hm hv
 go_enter Tryz.func151,Tryz.ntmps151
 go_wp2_with fail;refine (i1 _ (hs.below qBl)).mono ?_;rintro e w1 ⟨rfl,b1⟩;obtain ⟨X,hX⟩:=qN (w.heap.size);have A1:At w1 X [.int .i64 st,.slice a l.length c]:=(At.new w #[.int .i64 st,.slice a l.length c] 25 hX.symm rfl).below b1;have hb:Below w.heap.size w w1:=((Below.refl _ _).alloc (Nat.le_refl _) _).trans (b1.mono qP);rw [hX];clear b1 i1;obtain ⟨y,y0,y1,-⟩:=id A1.facts2;go_wp2_with fail;refine (zaoq m _ hm5).mono ?_;rintro e w2 ⟨p,cp,hds,rfl,o2,b2⟩;have hs2:=(hs.below hb).below b2;have A2:=A1.below b2;have hB:=o2.own.lt (k:=p) rfl;clear y y0 y1;obtain ⟨y,y0,y1,-⟩:=id A2.facts2;go_wp2_with fail;clear y y0 y1;have hX1:X<w1.heap.size:=A1.lt
 go_loopw [16] (fun i wr=>∃ k:Nat,k≤l.length∧i=.int .i64 k∧MatO wr w1.heap.size (.slice (some ⟨p,0,none⟩) m cp) hds (matF m fun i j=>linkN (l.take k) ((i:Int)+1) ((j:Int)+1))∧Below w1.heap.size w1 wr) (fun i _=>l.length - (intOf i).toNat)
 case atStart=>exact ⟨0,by omega,rfl,o2.congrF fun i j _ _=>rfl,b2⟩
 case round =>
  clear o2;obtain ⟨k,hk,rfl,o3,b3⟩:=hrel
  by_cases hlt:k<l.length
  · have hs3:=(hs.below hb).below b3
    obtain ⟨b,off,rfl,hbw,e1,e2,e3,e4,e5⟩:=Legs.at hs3 hlt;obtain ⟨h1,h2,h3⟩:=HE.out k hlt
    have HT:=Lib.hid (fun i j=>zakf hlt i j)
    have hF:∀ i j,i<m→j<m→-100≤linkN (l.take k) ((i:Int)+1) ((j:Int)+1)∧linkN (l.take k) ((i:Int)+1) ((j:Int)+1)≤100:=fun i j _ _=>by
     have:=zaft (l.take k) ((i:Int)+1) ((j:Int)+1);simp only [List.length_take] at this
     omega
    obtain ⟨⟨g1,g2,g3,g4,g5⟩,hg⟩:=qN (nth l k);rw [hg] at e1 e2 e3 e4 e5 h1 h2 h3;have HG:=Lib.hid hg;simp only at e1 e2 e3 e4 e5 h1 h2 h3;have HF:=Lib.hid hF;clear hg hF;have hk2:(k:Int)<(l.length:Int):=qO;go_wp2_with fail;refine (zaq0 w1.heap.size p cp m hds _ g1 g2 _ hm5 h1 h2 h3 HF.out (o3.below qBl)).mono ?_;rintro e w4 ⟨rfl,o4,b4⟩;go_wp2_with fail;go_roundw
    case rel =>
     refine ⟨k+1,by omega,by go_num,o4.congrF fun i j _ _=>?_,(b3.alloc b3.size _).trans b4⟩
     have:=HT.out ((i:Int)+1) ((j:Int)+1);rw [HG.out,zav5] at this
     exact this.symm
    case measure=>simp [intOf];omega
  · obtain rfl:k=l.length:=by omega
    rw [List.take_length,← zass] at o3;go_wp2_with fail;go_ret
    exact ⟨_,_,rfl,o3.mono hb.size,hb.trans (b3.mono hb.size)⟩
theorem zank (a:Option Addr) (c:Nat) (st:Int) (l:List Lg) (w:World) (hv:svOk ⟨st,l⟩=true) (hs:Legs w a l):Calls Tryz.prog 116 #[.agg #[.int .i64 st,.slice a l.length c]] w fun e w'=>e=.returned (.int .i64 (treesF ⟨st,l⟩))∧Below w.heap.size w w':=by
 obtain ⟨v1,v2,v3⟩:=st_in hv;simp only at v1 v2 v3
 have i1:=fun w h=>zaab a c st l w qO h
 rw [hv] at i1
 have i2:=fun w h=>zamh a c st l w hv h
 have hM:=zagn hv;simp only at hM
 have HR:Hid (treesF ⟨st,l⟩=detL (linkM l (st.toNat - 1))):=by show _=_;unfold treesF;rw [if_pos hv]
 obtain ⟨M,hMe⟩:=qN (linkM l (st.toNat - 1));rw [hMe] at i2 hM HR
 have i3:=fun a c w h=>zalk a c M w hM h
 clear hMe hv
 go_enter Tryz.func116,Tryz.ntmps116
 go_wp2_with fail;refine (i1 _ (hs.below qBl)).mono ?_;rintro e w1 ⟨rfl,b1⟩;obtain ⟨X,hX⟩:=qN (w.heap.size);have A1:At w1 X [.int .i64 st,.slice a l.length c]:=(At.new w #[.int .i64 st,.slice a l.length c] 25 hX.symm rfl).below b1;have hb:Below w.heap.size w w1:=((Below.refl _ _).alloc (Nat.le_refl _) _).trans (b1.mono qP);rw [hX];clear b1 i1;obtain ⟨y,y0,y1,-⟩:=id A1.facts2;go_wp2_with fail;refine (i2 _ (hs.below hb)).mono ?_;rintro e w2 ⟨v,hds,rfl,o2,b2⟩;obtain ⟨av,cv,rfl⟩:=o2.sl;go_wp2_with fail;refine (i3 _ _ _ o2.rd).mono ?_;rintro e w3 ⟨rfl,b3⟩;go_wp2_with fail;go_ret
 exact ⟨by rw [HR.out];rfl,hb.trans ((b2.trans (b3.mono b2.size)).mono hb.size)⟩
def rowF (m:Nat) (F:Nat→Int):List Int:=(List.range m).map F
theorem zaas (m:Nat) (F:Nat→Int):(rowF m F).length=m:=by simp [rowF]
theorem zab4 {m j:Nat} (F:Nat→Int) (h:j<m):nth (rowF m F) j=F j:=by simp [rowF,nth,h]
theorem zadn {m r:Nat} (F:Nat→Int) (x:Int):(rowF m F).set r x=rowF m (fun j=>if j=r then x else F j):=by
 refine zabf (by simp [rowF]) fun j hj=>?_
 have hj':j<m:=by simpa [rowF] using hj
 rw [zaav (by rw [zaas];exact hj'),zab4 _ hj',zab4 _ hj']
 by_cases e:r=j
 · rw [if_pos e,if_pos e.symm]
 · rw [if_neg e,if_neg (Ne.symm e)]
theorem zaa7 {m:Nat} {F G:Nat→Int} (h:∀ j,j<m→F j=G j):rowF m F=rowF m G:=List.map_congr_left fun j hj=>h j (List.mem_range.1 hj)
theorem zaeo (m:Nat):List.replicate m (0:Int)=rowF m (fun _=>0):=by
 refine zabf (by simp [rowF]) fun j hj=>?_
 have:j<m:=by simpa using hj
 simp [nth,rowF,this]
theorem zaa3 {n k:Nat} (h:k<n):n - (intOf (.int .i64 ((k:Int)+1))).toNat<n - (intOf (.int .i64 (k:Int))).toNat:=by
 simp only [intOf];omega
theorem zac0 {P:Program} {α:Type} [Inhabited α] {K:Kind α} {T t:TypeId} (I:KInfo P K T t) {w:World} {ops:Array Oper} {rest:List Oper} {o:Oper} {a:Act} {Q:Exit→Act→World→Prop} (s x:Operand) (hw:Region.wanted o (yielded ops a.tmps)=true)
 (hop:o.op=.call { callee:=.builtin .append,args:=#[s,x],argTypes:=#[t,t] }) (B:Nat) (v:Value) (xs ys zs:List α) (hz:xs ++ ys=zs) (m zn:Nat) (hm:ys.length=m) (hzn:zs.length=zn) (A:Option Addr) (c:Nat) (hs:a.eval s=v)
 (hown:KOwn K T w B v xs) (hx:a.eval x=.slice A m c) (hy:KRd K w A ys) (hl:xs.length≤2097160) (hl2:ys.length≤2097160) (hB:B≤w.heap.size)
 (hK:∀ av cv w',KOwn K T w' B (.slice av zn cv) zs→w.grownBy w' v.ownBlock→Below B w w'→((Value.slice av zn cv).ownBlock=v.ownBlock∨(Value.slice av zn cv).ownBlock=some w.heap.size)→wpList P ops Q rest (a.put o.dst (.slice av zn cv)) w'):wpList P ops Q (o :: rest) a w:=by
 subst hz hm hzn
 exact zaaj I s x hw hop B v xs ys A c hs hown hx hy hl hl2 hB hK
open Go Go.RowKit
def Que (w:World) (g off cap:Nat) (xs:List Int):Prop :=
 xs.length≤cap∧∃ c:Array Value,w.heap[g]?=some (.cells c 3 (0,0))∧off+cap≤c.size∧∀ j,j<xs.length→c[off+j]?=some (.int .i64 (nth xs j))
theorem Que.of_block {w w':World} {g off cap:Nat} {xs:List Int} (h:Que w g off cap xs) (e:w'.heap[g]?=w.heap[g]?):Que w' g off cap xs:=by
 obtain ⟨h1,c,h2,h3⟩:=h
 exact ⟨h1,c,e.trans h2,h3⟩
theorem Que.lt {w:World} {g off cap:Nat} {xs:List Int} (h:Que w g off cap xs):g<w.heap.size:=by
 obtain ⟨_,c,h2,_⟩:=h
 exact (Array.getElem?_eq_some_iff.1 h2).1
theorem Que.below {w w':World} {g off cap:Nat} {xs:List Int} (h:Que w g off cap xs) (hb:Below w.heap.size w w'):Que w' g off cap xs:=h.of_block (hb.block g h.lt)
theorem Que.alloc {w:World} {g off cap:Nat} {xs:List Int} (h:Que w g off cap xs) (o:Obj):Que (w.alloc o) g off cap xs:=h.below ((Below.refl _ _).alloc (Nat.le_refl _) o)
theorem Que.other {w:World} {g off cap:Nat} {xs:List Int} (h:Que w g off cap xs) {a:Addr} (ha:g≠a.block) (v:Value):Que (w.setCell a v) g off cap xs:=h.of_block (Below.heap_setCell w a v g ha)
theorem Que.cell {w:World} {g off cap:Nat} {xs:List Int} (h:Que w g off cap xs) {j:Nat} (hj:j<xs.length):w.cell? ⟨g,off+j,none⟩=some (.int .i64 (nth xs j)):=by
 obtain ⟨_,c,h2,_,h4⟩:=h
 simp [World.cell?,h2,h4 j hj]
theorem Que.one (w:World) (x:Int):Que (w.alloc (.cells #[.int .i64 x] 3)) w.heap.size 0 1 [x]:=by
 refine ⟨by simp,#[.int .i64 x],Deep.blk_alloc_new _ _,by simp,fun j hj=>?_⟩
 simp at hj
 subst hj
 rfl
theorem Que.pop {w:World} {g off cap:Nat} {x:Int} {xs:List Int} (h:Que w g off cap (x :: xs)):Que w g (if cap=1 then off else off+1) (cap - 1) xs:=by
 obtain ⟨h1,c,h2,h3,h4⟩:=h;simp only [List.length_cons] at h1 h4
 by_cases e:cap=1
 · have:xs=[]:=List.eq_nil_of_length_eq_zero qO
   subst this;rw [if_pos e]
   exact ⟨by simp,c,h2,by omega,fun j hj=>by simp at hj⟩
 · rw [if_neg e]
   refine ⟨by omega,c,h2,by omega,fun j hj=>?_⟩
   have:=h4 (j+1) qO;rw [show off+1+j=off+(j+1) by omega,this]
   rfl
theorem zaym {w:World} {ops:Array Oper} {rest:List Oper} {o:Oper} {a:Act} {Q:Exit→Act→World→Prop} (s x:Operand) (hg:o.guard=none)
 (hop:o.op=.call { callee:=.builtin .append,args:=#[s,x],argTypes:=#[150,150] }) (g off cap:Nat) (xs:List Int) (x1:Int) (b c:Nat)
 (hs:a.eval s=.slice (some ⟨g,off,none⟩) xs.length cap) (hq:Que w g off cap xs) (hx:a.eval x=.slice (some ⟨b,0,none⟩) 1 c) (hc:w.cell? ⟨b,0,none⟩=some (.int .i64 x1)) (hl:xs.length≤1048576)
 (hK:∀ g' off' cap' w',Que w' g' off' cap' (xs ++ [x1])→(g'=g∨w.heap.size≤g')→(∀ B,B≤g→B≤w.heap.size→Below B w w')→(∀ k,k≠g→k<w.heap.size→w'.heap[k]?=w.heap[k]?) →
  wpList Tryz.prog ops Q rest (a.put o.dst (.slice (some ⟨g',off',none⟩) (xs.length+1) cap')) w'):wpList Tryz.prog ops Q (o :: rest) a w:=by
 obtain ⟨i0,hi,hz0,hz1,hz2⟩:=info_parts zaji;obtain ⟨h1,c0,h2,h3,h4⟩:=hq
 have hcell:∀ j,j<c0.size→w.cell? ⟨g,j,none⟩=c0[j]?:=fun j hj=>by simp [World.cell?,h2]
 refine wpList_append_arg w hg s x 150 hop 3 i0 (.int .i64 0) 1 8 Tryz.underlying150 hi hz0 hz1 hz2 rfl (by decide) g off xs.length cap (xs.map (Value.int .i64)) hs qP ?_ ⟨b,0,none⟩ 1 c [.int .i64 x1] hx rfl ?_ ?_ ?_ (by unfold maxLen;omega) qO ?_ ?_
 · intro j u hu
   rw [List.getElem?_map] at hu
   by_cases hj:j<xs.length
   · rw [getElem?_nth hj] at hu
     simp at hu;subst hu
     rw [hcell _ qO];exact h4 j hj
   · rw [List.getElem?_eq_none qO] at hu;simp at hu
 · intro j u hj
   match j,hj with
   | 0,hj=>simp at hj;subst hj;rw [Addr.add_lit];exact hc
 · intro u hu;simp at hu;subst hu;rfl
 · intro hr j hj
   simp at hj;subst hj
   refine ⟨?_,by simp [World.frozen?,h2]⟩;rw [hcell _ qO,Array.getElem?_eq_getElem qO]
   rfl
 · intro hr
   simp only [World.setCells,Nat.mul_one]
   refine hK g off cap _ ⟨by simp;omega,c0.setIfInBounds (off+xs.length) (.int .i64 x1),?_,by simpa using h3,fun j hj=>?_⟩ (.inl rfl) (fun B hB hB2=>(Below.refl _ _).setCell hB _) fun k hk _=>Below.heap_setCell w _ _ k hk
   · simp [World.setCell,Array.getElem?_modify,h2]
   · rw [Array.getElem?_setIfInBounds]
     simp at hj
     by_cases e:j=xs.length
     · subst e;rw [if_pos rfl,if_pos qO,zaby]
     · rw [if_neg qO,h4 j qO,zaam qO]
 · intro hr v' w' ho hgr
   obtain ⟨av,cv,e,hc1,hcs⟩:=zap6 ho;obtain ⟨g',rfl,hB,hg',hcs⟩:=hcs qO;have ho2:=ho.2
   rcases ho2 with ⟨hn,_⟩|⟨g2,cap2,cur,e2,hB2,hh,hn2,hm2,hsz,htk⟩
   · rw [e] at hn;simp at hn
   · rw [e] at e2
     simp at e2
     obtain ⟨rfl,rfl⟩:=e2;rw [e]
     refine hK g' 0 cv w' ⟨by simp;omega,cur,hh,by omega,fun j hj=>?_⟩ (.inr hB) (fun B _ hB=>(Below.refl B w).grown hgr hB fun k hk=>by cases hk) fun k _ hk=>hgr.block k hk qP
     rw [Nat.zero_add]
     have h5:(cur.toList.take ((xs.length+1)*1))[j]?=some (.int .i64 (nth (xs ++ [x1]) j)):=by
      rw [htk,show ([Value.int IntKind.i64 x1])=[x1].map (Value.int .i64) from rfl,← List.map_append,List.getElem?_map,getElem?_nth hj]
      rfl
     rw [List.getElem?_take] at h5
     split at h5
     · simpa using h5
     · cases h5
theorem zavk (g off cap n:Nat) (hc:n+1≤cap) (w:World):(Instr.slice 150 (.slice (some ⟨g,off,none⟩) (n+1) cap) (some (.int .i64 1)) none none).run Tryz.prog w =
 .ok (.slice (some ⟨g,if cap=1 then off else off+1,none⟩) n (cap - 1)) w:=by
 by_cases e:cap=1 <;> simp [go_sem,sliced,e] <;> intro h <;> omega
end Go.Proofs.YthfoloefkfadlaaGreatDoor
