/- Walks: copies of lists of deeds, turned lists of deeds. -/
import Derived.Test.YthfoloefkfadlaaGreatDoorK3
import Derived.BigRegion
import Derived.Lib.AppendZeros
import Derived.Test.YthfoloefkfadlaaGreatDoorK8
import Derived.Deep.RegionHeld3
import Derived.ArgAppend
set_option linter.unusedSimpArgs false
set_option linter.unusedVariables false
set_option maxHeartbeats 4000000
set_option maxRecDepth 100000
namespace Go.Proofs.YthfoloefkfadlaaGreatDoor
open Go Go.RowKit Go.Sort
theorem zafh (a:Option Addr) (c:Nat) (l:List Dd) (w:World) (hl:l.length≤1048576) (hs:Dds w a l) :
 Calls Tryz.prog 75 #[.slice a l.length c] w fun e w'=>∃ v,e=.returned v∧OwnD w' w.heap.size v l∧Below w.heap.size w w':=by
 have heq:∀ (w:World) (a:Option Addr) (n c n' c':Nat),(binOp .eql 26 (.slice a n c) (.slice none n' c')).run Tryz.prog w=.ok (.bool a.isNone) w:=fun w a n c n' c'=>Lib.run_eql_slice_nil w _ _ a n c n' c' Tryz.underlying26
 cases a with
 | none =>
   obtain rfl:=hs.empty
   go_enter Tryz.func75,Tryz.ntmps75
   go_wp2
   go_ret
   exact ⟨_,rfl,KOwn.nil,Below.refl _ _⟩
 | some ad =>
   go_enter Tryz.func75,Tryz.ntmps75
   go_wp2_with (at_builtin;refine zaaj ddI _ _ rfl rfl w.heap.size _ [] l (some ad) c rfl (KOwn.lit w w.heap.size (Nat.le_refl _)) rfl (hs.below qBl) qP qO qP ?_;rintro av cv w1 o1 - b1 -)
   go_ret
   exact ⟨_,rfl,o1,Below.trans qBl b1⟩
theorem Wr.drew {R:Nat→Prop} {w w':World} (h:Wr R w w'):Wr R w w'.drew:=h.trans ⟨rfl,rfl,rfl,Nat.le_refl _,fun _ _ _=>rfl⟩
theorem Wr.setCell {R:Nat→Prop} {w w':World} (h:Wr R w w') {p:Addr} (hp:R p.block) (v:Value):Wr R w (w'.setCell p v) :=
 h.trans ⟨rfl,rfl,rfl,by simp [World.setCell],fun k _ hk=>Below.heap_setCell _ _ _ _ (fun e=>hk (by rw [e];exact hp))⟩
theorem Wr.setCells {R:Nat→Prop} {w:World} {g:Nat} (hg:R g):∀ (vs:List Value) (o:Nat) (w':World),Wr R w w'→Wr R w (w'.setCells g o vs)
 | [],_,_,h=>h
 | v :: r,o,w',h=>by rw [World.setCells];exact Wr.setCells hg r (o+1) _ (h.setCell (p:=⟨g,o,none⟩) hg v)
def revAt (l:List Dd) (i k:Nat):Option Dd:=if k<l.length then some (if k<i∨l.length≤k+i then nth l (l.length - 1 - k) else nth l k) else none
theorem zarf (l:List Dd) (k:Nat) (hk:k<l.length):nth l.reverse k=nth l (l.length - 1 - k):=by
 unfold nth;rw [List.getD_eq_getElem?_getD,List.getD_eq_getElem?_getD,List.getElem?_reverse hk]
theorem zas7 (B:Nat) (a:Option Addr) (c:Nat) (l:List Dd) (w:World) (hl:l.length≤1048576) (ho:OwnD w B (.slice a l.length c) l) :
 Calls Tryz.prog 76 #[.slice a l.length c] w fun e w'=>e=.returned (.tuple #[])∧OwnD w' B (.slice a l.length c) l.reverse∧Wr (fun j=>(Value.slice a l.length c).ownBlock=some j) w w':=by
 by_cases h0:0<l.length
 · obtain ⟨g,cap,e,hBg,hn,hm,hr⟩:=ho.krow h0
   cases e
   clear ho;have hg:(Value.slice (some ⟨g,0,none⟩) l.length c).ownBlock=some g:=rfl
   go_enter Tryz.func76,Tryz.ntmps76
   go_wp2_with fail
   go_loopw [2,3] (fun s t wr=>∃ i:Nat,2*i≤l.length∧s=.int .i64 i∧t=.int .i64 ((l.length:Int) - 1 - i)∧KRow ddK 82 wr g c (revAt l i)∧Wr (fun j=>(Value.slice (some ⟨g,0,none⟩) l.length c).ownBlock=some j) w wr) (fun s _ _=>l.length - (intOf s).toNat)
   case atStart=>exact ⟨0,by omega,rfl,by simp,hr.congr (fun k _ x hx=>by
    unfold revAt at hx
    split at hx
    · rename_i hk;rw [if_neg qO] at hx;rw [if_pos hk];exact hx
    · cases hx),.refl⟩
   case round =>
    obtain ⟨i,hi,rfl,rfl,hr,hw⟩:=hrel
    by_cases hlt:2*i+1<l.length
    · have hic:i<c:=by omega
      obtain ⟨j,hj⟩:∃ j:Nat,(l.length:Int) - 1 - i=(j:Int):=⟨l.length - 1 - i,by omega⟩;have hjn:j=l.length - 1 - i:=qO;have hij:i<j:=qO;have hjc:j<c:=qO;have hjl:j<l.length:=qO;rw [hj];have HJ:=Lib.hid hj;have HJN:=Lib.hid hjn
      have fi:revAt l i i=some (nth l i):=by unfold revAt;rw [if_pos qO,if_neg qO]
      have fj:revAt l i j=some (nth l j):=by unfold revAt;rw [if_pos qO,if_neg qO]
      have m0:=hr.at hic fi (r:=0) rfl;have m1:=hr.at hic fi (r:=1) rfl;have m2:=hr.at hic fi (r:=2) rfl;have m3:=hr.at hic fi (r:=3) rfl;have m4:=hr.at hic fi (r:=4) rfl;have m5:=hr.at hic fi (r:=5) rfl;have m6:=hr.at hic fi (r:=6) rfl;have n0:=hr.at hjc fj (r:=0) rfl;have n1:=hr.at hjc fj (r:=1) rfl;have n2:=hr.at hjc fj (r:=2) rfl;have n3:=hr.at hjc fj (r:=3) rfl;have n4:=hr.at hjc fj (r:=4) rfl;have n5:=hr.at hjc fj (r:=5) rfl;have n6:=hr.at hjc fj (r:=6) rfl;simp only [ddK,Nat.add_zero] at m0 m1 m2 m3 m4 m5 m6 n0 n1 n2 n3 n4 n5 n6;have hfz:=hr.free;have hij2:(i:Int)<(j:Int):=qO;have hl2:(j:Int)<(l.length:Int):=qO;have hl3:(i:Int)<(l.length:Int):=qO;have p1:=hr.put i [nth l j];have p2:=p1.put j [nth l i];clear fi fj hj hjn;go_wp2_with fail
      go_big_region
      go_wp2_with fail;go_roundw
      case rel =>
       have e1:=HJN.out
       refine ⟨i+1,by omega,by go_num,by congr 1;omega,?_,?_⟩
       · show KRow ddK 82 ((wr.setCells g (i*ddK.sz) (ddK.flat [nth l j])).setCells g (j*ddK.sz) (ddK.flat [nth l i])).drew g c (revAt l (i+1))
         refine (p2.congr fun k hk x hx=>?_).drew
         unfold revAt at hx ⊢;simp only [List.length_cons,List.length_nil]
         by_cases hkl:k<l.length
         · rw [if_pos hkl] at hx
           by_cases e2:k=j
           · subst e2
             rw [if_pos qO] at hx;rw [if_pos qO,← hx];have:l.length - 1 - k=i:=qO;rw [this];simp [nth]
           · by_cases e3:k=i
             · subst e3
               rw [if_pos qO] at hx;rw [if_neg qO,if_pos qO,← hx];rw [← e1];simp [nth]
             · rw [if_neg qO,if_neg qO,if_pos hkl,← hx]
               congr 1
               by_cases e4:k<i∨l.length≤k+i
               · rw [if_pos e4,if_pos qO]
               · rw [if_neg e4,if_neg qO]
         · rw [if_neg hkl] at hx;cases hx
       · exact (Wr.setCells hg [_,_,_,_,_,_,_] (j*7) _ (Wr.setCells hg [_,_,_,_,_,_,_] (i*7) _ hw)).drew
      case measure=>simp [intOf] <;> omega
    · go_wp2_with fail
      go_end0
      refine ⟨rfl,?_,hw⟩
      have:=hr.own hBg l.reverse (by rw [List.length_reverse];exact hn) hm (fun k hk=>by
       rw [List.length_reverse] at hk;rw [zarf l k hk];unfold revAt;rw [if_pos hk]
       by_cases e4:k<i∨l.length≤k+i
       · rw [if_pos e4]
       · rw [if_neg e4]
         have:l.length - 1 - k=k:=qO
         rw [this])
      rw [List.length_reverse] at this
      exact this
 · have e:l=[]:=List.eq_nil_of_length_eq_zero qO
   subst e
   go_enter Tryz.func76,Tryz.ntmps76
   go_wp2_with fail
   go_loopw [2,3] (fun s t wr=>s=.int .i64 ((0:Nat):Int)∧t=.int .i64 (-1)∧wr=w) (fun _ _ _=>0)
   case atStart=>exact ⟨rfl,rfl,rfl⟩
   case round =>
    obtain ⟨rfl,rfl,rfl⟩:=hrel;go_wp2_with fail
    go_end0
    exact ⟨rfl,ho,.refl⟩
theorem zarg (n:Nat) (w:World) (hn:n≤2097152) :
 Calls Tryz.prog 124 #[.slice none 0 0,.int .i64 (n:Int)] w fun e w'=>∃ a c,e=.returned (.slice a 0 c)∧OwnD w' w.heap.size (.slice a 0 c) []∧Below w.heap.size w w':=by
 obtain ⟨i0,hi,hz0,hz1,hz2⟩:=info_parts zauu
 by_cases h0:0<n
 · have hrun:∀ ty,(Builtin.append_ #[26,3] ty #[.slice none 0 0,.int .i64 (n:Int)]).run Tryz.prog w=_:=fun ty=>Lib.run_append_nil_zeros w 26 3 ty 82 i0 _ .i64 .i64 Tryz.underlying26 Tryz.underlying3 hi hz0 n h0 (by rw [hz1];omega) qO (by rw [hz2];omega)
   obtain ⟨c,hc⟩:=qN (grownCap w n 0 82)
   have hge:n≤c:=by rw [← hc];have:=grownCap_ge w n 0 82;exact this
   have hle:c≤maxLen:=by rw [← hc];exact grownCap_le_maxLen w n 0 82 (by unfold maxLen;omega)
   have hle2:c≤9223372036854775807:=by unfold maxLen at hle;omega
   simp only [hc] at hrun;have HR:=Lib.hid hrun;clear hrun hc hz0 hz1 hz2 hi
   go_enter Tryz.func124,Tryz.ntmps124
   go_wp2_with (at_builtin;refine Lib.wpList_append_run _ rfl _ _ _ _ rfl _ _ rfl rfl _ _ (HR.out _) ?_)
   go_ret
   refine ⟨_,_,rfl,?_,((Below.refl _ _).drew).alloc (Nat.le_refl _) _⟩
   have hk:=KRow.new (K:=ddK) (T:=82) (cap:=c) (F:=fun _=>none) w.drew (Builtin.zeroCells (Value.agg #[.int .i64 0,.int .i64 0,.int .i64 0,.int .i64 0,.int .i64 0,.int .i64 0,.int .i64 0]).cells n ++ Builtin.zeroCells (Value.agg #[.int .i64 0,.int .i64 0,.int .i64 0,.int .i64 0,.int .i64 0,.int .i64 0,.int .i64 0]).cells (c - n)) (by
    simp only [Array.size_append,zadb,← Nat.add_mul]
    show (n+(c - n))*7=c*7
    congr 1;omega) (fun _ _ _ h=>by cases h)
   exact hk.own (Nat.le_refl _) [] (Nat.zero_le _) hle (fun k hk=>by simp at hk)
 · have e:n=0:=by omega
   subst e
   go_enter Tryz.func124,Tryz.ntmps124
   go_wp2_with fail;go_ret
   exact ⟨_,_,rfl,KOwn.nil,Below.refl _ _⟩
def CatSz (n m:Nat) (i s:Value):Prop:=(i=.int .i64 ((0:Nat):Int)∧s=.int .i64 ((0:Nat):Int))∨(i=.int .i64 ((1:Nat):Int)∧s=.int .i64 ((n:Nat):Int))∨(i=.int .i64 ((2:Nat):Int)∧s=.int .i64 ((n+m:Nat):Int))
def CatAt (w:World) (l m:List Dd) (i v:Value) (wr:World):Prop:=((i=.int .i64 ((0:Nat):Int)∧OwnD wr w.heap.size v [])∨(i=.int .i64 ((1:Nat):Int)∧OwnD wr w.heap.size v l)∨(i=.int .i64 ((2:Nat):Int)∧OwnD wr w.heap.size v (l ++ m)))∧Below w.heap.size w wr
theorem zanu (L:Nat) (a1 a2:Option Addr) (c1 c2:Nat) (l m:List Dd) (w:World) (hl:l.length≤1048576) (hm:m.length≤1048576) (hL:At w L [.slice a1 l.length c1,.slice a2 m.length c2]) (h1:Dds w a1 l) (h2:Dds w a2 m) :
 Calls Tryz.prog 77 #[.slice (some ⟨L,0,none⟩) 2 2] w fun e w'=>∃ v,e=.returned v∧OwnD w' w.heap.size v (l ++ m)∧Below w.heap.size w w':=by
 obtain ⟨y0,y1,y2,-⟩:=hL.facts2
 go_enter Tryz.func77,Tryz.ntmps77
 go_wp2_with fail
 go_loopw [3,11] (fun s i wr=>CatSz l.length m.length i s∧wr=w) (fun _ i _=>2 - (intOf i).toNat)
 case atStart=>exact ⟨.inl ⟨rfl,rfl⟩,rfl⟩
 case round =>
  obtain ⟨hz,hww⟩:=hrel;replace hww:=hww.symm;subst hww
  rcases hz with ⟨rfl,rfl⟩|⟨rfl,rfl⟩|⟨rfl,rfl⟩
  · go_wp2_with fail
    go_roundw
    case rel=>exact ⟨.inr (.inl ⟨by first|rfl|go_num,by first|rfl|go_num|simp⟩),by trivial⟩
    case measure=>simp [intOf]
  · go_wp2_with fail
    go_roundw
    case rel=>exact ⟨.inr (.inr ⟨by first|rfl|go_num,by first|rfl|go_num|simp⟩),by trivial⟩
    case measure=>simp [intOf]
  · go_wp2_with fail
    refine (zarg (l.length+m.length) _ qO).mono ?_;rintro e w1 ⟨a3,c3,rfl,o3,k3⟩;have hL1:=hL.below k3;clear y0 y1 y2;obtain ⟨y0,y1,y2,-⟩:=hL1.facts2;have hrel0:CatAt w l m (.int .i64 ((0:Nat):Int)) (.slice a3 0 c3) w1:=⟨.inl ⟨rfl,o3⟩,k3⟩;clear o3 k3;go_wp2_with fail
    go_loopw [6,27] (fun v i wq=>CatAt w l m i v wq∧At wq L [.slice a1 l.length c1,.slice a2 m.length c2]) (fun _ i _=>2 - (intOf i).toNat)
    case atStart=>exact ⟨hrel0,hL1⟩
    case round =>
     obtain ⟨⟨hz,bz⟩,hLq⟩:=hrel;clear hrel0 hL1 y0 y1 y2;obtain ⟨y0,y1,y2,-⟩:=hLq.facts2
     rcases hz with ⟨rfl,o4⟩|⟨rfl,o4⟩|⟨rfl,o4⟩
     · obtain ⟨a4,c4,rfl⟩:=o4.sl
       go_wp2_with (at_builtin;refine zaaj ddI _ _ rfl rfl w.heap.size _ [] l a1 c1 rfl o4 rfl (h1.below bz) qP qO bz.size ?_;rintro av cv w5 o5 - b5 -)
       go_roundw
       case rel=>exact ⟨⟨.inr (.inl ⟨by first|rfl|go_num,o5⟩),bz.trans b5⟩,hLq.belowB b5 (by have:=hL.lt;omega)⟩
       case measure=>simp [intOf]
     · obtain ⟨a4,c4,rfl⟩:=o4.sl
       go_wp2_with (at_builtin;refine zaaj ddI _ _ rfl rfl w.heap.size _ l m a2 c2 rfl o4 rfl (h2.below bz) qO qO bz.size ?_;rintro av cv w5 o5 - b5 -)
       go_roundw
       case rel=>exact ⟨⟨.inr (.inr ⟨by first|rfl|go_num,by have:=o5;rw [List.length_append] at this;exact this⟩),bz.trans b5⟩,hLq.belowB b5 (by have:=hL.lt;omega)⟩
       case measure=>simp [intOf]
     · obtain ⟨a4,c4,rfl⟩:=o4.sl
       go_wp2_with fail;go_ret
       exact ⟨_,rfl,o4,bz⟩
theorem zapp (l:List Dd) (k:Nat) (hk:k<l.length):(l.drop (k+1)).reverse ++ [nth l k]=(l.drop k).reverse:=by
 rw [zab3 hk,List.reverse_cons]
theorem zaem (w:World) (x:Dd) (T:TypeId):Dds (w.alloc (.cells #[.int .i64 x.kind,.int .i64 x.index,.int .i64 x.leg.frm,.int .i64 x.leg.to,.int .i64 x.leg.east,.int .i64 x.leg.north,.int .i64 x.leg.up] T)) (some ⟨w.heap.size,0,none⟩) [x]:=by
 refine KRd.mk qP fun j u hu=>?_
 rw [Nat.zero_add]
 exact (At.new (X:=w.heap.size) w _ T rfl rfl).c j u (by rw [zaa4,zabi,List.append_nil] at hu;exact hu)
theorem zapq (a:Option Addr) (c:Nat) (l:List Dd) (w:World) (hl:l.length≤1048576) (hs:Dds w a l) :
 Calls Tryz.prog 44 #[.slice a l.length c] w fun e w'=>∃ v,e=.returned v∧OwnD w' w.heap.size v l.reverse∧Below w.heap.size w w':=by
 go_enter Tryz.func44,Tryz.ntmps44
 go_wp2_with fail
 go_loopw [3,4] (fun v i wr=>∃ k:Nat,k≤l.length∧i=.int .i64 ((k:Int) - 1)∧OwnD wr w.heap.size v (l.drop k).reverse∧Below w.heap.size w wr) (fun _ i _=>(intOf i+1).toNat)
 case atStart=>exact ⟨l.length,Nat.le_refl _,rfl,by rw [List.drop_length];exact KOwn.lit w _ (Nat.le_refl _),qBl⟩
 case round =>
  obtain ⟨k,hk,rfl,ho,hb⟩:=hrel
  by_cases h0:0<k
  · obtain ⟨q,rfl⟩:∃ q,k=q+1:=⟨k - 1,by omega⟩
    have eq1:((q+1:Nat):Int) - 1=(q:Int):=qO;rw [eq1];clear eq1;obtain ⟨b,off,rfl,hbw,m0,m1,m2,m3,m4,m5,m6⟩:=Dds.at (hs.below hb) (show q<l.length by omega);obtain ⟨xs,hx⟩:=qN ((l.drop (q+1)).reverse);rw [hx] at ho;have HX:=Lib.hid hx
    have hxl:xs.length≤1048576:=by rw [← hx];simp;omega
    clear hx;obtain ⟨av,cv,rfl⟩:=ho.sl;have hq0:(0:Int)≤(q:Int):=qO;have hz:=hb.size
    go_wp2_with (at_builtin;refine zaaj ddI _ _ rfl rfl w.heap.size _ xs [nth l q] (some ⟨wr.heap.size,0,none⟩) 1 rfl (ho.alloc _) rfl (zaem _ _ _) qO qP (by simp;omega) ?_;rintro av cv w5 o5 - b5 -)
    go_roundw
    case rel =>
     refine ⟨q,by omega,by first|rfl|go_num,?_,(hb.alloc hz _).trans b5⟩
     rw [← zapp l q qO,HX.out];have:=o5;rw [List.length_append] at this
     exact this
    case measure=>simp [intOf] <;> omega
  · have e:k=0:=by omega
    subst e;go_wp2_with fail;go_ret
    exact ⟨_,rfl,by rw [List.drop_zero] at ho;exact ho,hb⟩
set_option maxHeartbeats 1000000
theorem zals (L:Nat) (a1 a2:Option Addr) (c1 c2 n1 n2:Nat) (l m z:List Dd) (w:World) (e1:l.length=n1) (e2:m.length=n2) (ez:l ++ m=z) (hl:n1≤1048576) (hm:n2≤1048576) (hL:At w L [.slice a1 n1 c1,.slice a2 n2 c2]) (h1:Dds w a1 l) (h2:Dds w a2 m) :
 Calls Tryz.prog 77 #[.slice (some ⟨L,0,none⟩) 2 2] w fun e w'=>∃ v,e=.returned v∧OwnD w' w.heap.size v z∧Below w.heap.size w w':=by
 subst e1 e2 ez
 exact zanu L a1 a2 c1 c2 l m w hl hm hL h1 h2
theorem zajm {st:Int} {l:List Lg} {d u:List Dd} (h:svOk ⟨st,l⟩=false):bkOk ⟨⟨st,l⟩,d,u⟩=false:=by simp [bkOk,h]
theorem zahv {st:Int} {l:List Lg} {d u:List Dd} (h:40<d.length+u.length):bkOk ⟨⟨st,l⟩,d,u⟩=false:=by simp [bkOk,h]
theorem zamv {st:Int} {l:List Lg} {d u:List Dd} (h:svOk ⟨st,l⟩=true) (h2:¬ 40<d.length+u.length):bkOk ⟨⟨st,l⟩,d,u⟩=decide ((ddRun ⟨st,l⟩ (d ++ u.reverse)).2=d.length+u.length):=by simp [bkOk,h,h2]
theorem zanv (a1 a2 a3:Option Addr) (c1 c2 c3:Nat) (st:Int) (l:List Lg) (d u:List Dd) (w:World) (hl:l.length≤1048576) (hs:RdB w a1 a2 a3 ⟨⟨st,l⟩,d,u⟩) (hv:svOk ⟨st,l⟩=false) :
 Calls Tryz.prog 33 #[.agg #[.int .i64 st,.slice a1 l.length c1,.slice a2 d.length c2,.slice a3 u.length c3]] w fun e w'=>e=.returned (.bool (bkOk ⟨⟨st,l⟩,d,u⟩))∧Below w.heap.size w w':=by
 rw [zajm hv]
 go_enter Tryz.func33,Tryz.ntmps33
 go_wp2_with (go_at_call 74;refine (zaab _ _ st l _ hl (hs.l.below qBl)).mono ?_;rintro e w1 ⟨rfl,b1⟩;rw [hv];obtain ⟨hc,hf⟩:=bcell b1)
 go_ret
 exact ⟨rfl,(by repeat (first|with_reducible assumption|with_reducible exact Below.refl _ _|refine Below.setCell ?_ qSo _|refine Below.alloc ?_ qSo _|with_reducible exact Below.trans (Below.refl _ _) b1|refine Below.trans ?_ (Below.mono b1 qSo)|refine below_drewN ?_ _|refine Below.drew ?_))⟩
theorem zapr (a1 a2 a3:Option Addr) (c1 c2 c3:Nat) (st:Int) (l:List Lg) (d u:List Dd) (w:World) (hl:l.length≤1048576) (hd:d.length≤1048576) (hu:u.length≤1048576) (hs:RdB w a1 a2 a3 ⟨⟨st,l⟩,d,u⟩) (hv:svOk ⟨st,l⟩=true) :
 Calls Tryz.prog 33 #[.agg #[.int .i64 st,.slice a1 l.length c1,.slice a2 d.length c2,.slice a3 u.length c3]] w fun e w'=>e=.returned (.bool (bkOk ⟨⟨st,l⟩,d,u⟩))∧Below w.heap.size w w':=by
 obtain ⟨X,hX⟩:=qN (w.heap.size);obtain ⟨W1,hW1⟩:=qM (w.alloc (.cells #[.int .i64 st,.slice a1 l.length c1,.slice a2 d.length c2,.slice a3 u.length c3] 28))
 have G:At W1 X [.int .i64 st,.slice a1 l.length c1,.slice a2 d.length c2,.slice a3 u.length c3]:=by rw [hW1];exact At.new _ _ _ hX.symm rfl
 have b0:Below w.heap.size w W1:=by rw [hW1];exact qBl
 by_cases h40:40<d.length+u.length
 · rw [zahv h40]
   have h41:decide (40<(d.length:Int)+(u.length:Int))=true:=by simp;omega
   go_enter Tryz.func33,Tryz.ntmps33
   go_wp2_with fail;rw [← hW1];clear hW1;refine (zaab _ _ st l _ hl (hs.l.below b0)).mono ?_;rintro e w1 ⟨rfl,k1⟩;rw [hv];replace G:=G.below k1;replace b0:=b0.trans (k1.mono b0.size);clear k1;obtain ⟨s0,s1,s2,s3,s4,-⟩:=G.facts4;go_wp2_with fail;go_ret
   exact ⟨rfl,b0⟩
 · rw [zamv hv h40]
   have h41:decide (40<(d.length:Int)+(u.length:Int))=false:=by simp;omega
   obtain ⟨ds,hds⟩:=qN (d ++ u.reverse)
   have hdl:ds.length=d.length+u.length:=by rw [← hds];simp
   rw [hds];obtain ⟨⟨⟨rst,rl⟩,many⟩,hR⟩:=qN (ddRun ⟨st,l⟩ ds)
   have K:=fun (a:Option Addr) (c:Nat) (w':World) (h1:Legs w' a1 l) (h2:Dds w' a ds)=>zahu a1 c1 st l a c ds w' hl qO h1 h2
   rw [hR] at K ⊢;have HK:=Lib.hid K;have HDS:=Lib.hid hds;have HDL:=Lib.hid hdl;have hdsl:ds.length≤1048576:=qO;have hrl:u.reverse.length=u.length:=List.length_reverse;have HRL:=Lib.hid hrl;rw [← hdl];clear K hR hds hdl hrl
   go_enter Tryz.func33,Tryz.ntmps33
   go_wp2_with fail;rw [← hW1];clear hW1;refine (zaab _ _ st l _ hl (hs.l.below b0)).mono ?_;rintro e w1 ⟨rfl,k1⟩;rw [hv];replace G:=G.below k1;replace b0:=b0.trans (k1.mono b0.size);clear k1;obtain ⟨s0,s1,s2,s3,s4,-⟩:=G.facts4;go_wp2_with fail;refine (zafh _ _ u _ hu (hs.u.below b0)).mono ?_;rintro e w2 ⟨v2,rfl,o2,k2⟩;obtain ⟨av2,cv2,rfl⟩:=o2.sl;replace G:=G.below k2;clear s1 s2 s3 s4;go_wp2_with fail;refine (zas7 _ _ _ u _ hu o2).mono ?_;rintro e w3 ⟨rfl,o3,r3⟩
   have k3:Below w1.heap.size w2 w3:=r3.below k2.size fun j hj=>(o2.lt hj).1
   replace G:=G.belowB k3 s0;replace b0:=b0.trans ((k2.mono b0.size).trans (k3.mono b0.size));clear r3 k2 k3 o2 s0;obtain ⟨s0,s1,s2,s3,s4,-⟩:=G.facts4;go_wp2_with fail;obtain ⟨L,hL⟩:=qN (w3.heap.size)
   have AL:=fun (T:TypeId)=>At.new (X:=L) w3 #[.slice a2 d.length c2,.slice av2 u.length cv2] T hL.symm rfl
   rw [hL];refine (zals L _ _ _ _ _ _ d u.reverse ds _ rfl HRL.out HDS.out hd hu (AL _) (hs.d.below (b0.alloc b0.size _)) (o3.alloc _).kr).mono ?_;rintro e w4 ⟨v4,rfl,o4,k4⟩;obtain ⟨av4,cv4,rfl⟩:=o4.sl;replace G:=(G.alloc _).below k4;replace b0:=(b0.alloc b0.size _).trans (k4.mono (by have:=b0.size;simp;omega));clear k4 AL s0 s1 s2 s3 s4 o3 hL;obtain ⟨s0,s1,s2,s3,s4,-⟩:=G.facts4;go_wp2_with fail;refine (HK.out _ _ _ (hs.l.below b0) o4.kr).mono ?_;rintro e w5 ⟨v5,rfl,o5,k5⟩;obtain ⟨av5,cv5,rfl⟩:=o5.sl;replace b0:=b0.trans (k5.mono b0.size);simp only;go_wp2_with fail;go_ret
   refine ⟨congrArg (fun b=>Ending.returned (Value.bool b)) (show ((many:Int) == (ds.length:Int))=decide (many=ds.length) from ?_),by rw [← hX];exact b0.alloc b0.size _⟩
   rw [Bool.eq_iff_iff]
   simp
   try omega
theorem zaan (a1 a2 a3:Option Addr) (c1 c2 c3:Nat) (st:Int) (l:List Lg) (d u:List Dd) (w:World) (hl:l.length≤1048576) (hd:d.length≤1048576) (hu:u.length≤1048576) (hs:RdB w a1 a2 a3 ⟨⟨st,l⟩,d,u⟩) :
 Calls Tryz.prog 33 #[.agg #[.int .i64 st,.slice a1 l.length c1,.slice a2 d.length c2,.slice a3 u.length c3]] w fun e w'=>e=.returned (.bool (bkOk ⟨⟨st,l⟩,d,u⟩))∧Below w.heap.size w w':=by
 cases hv:svOk ⟨st,l⟩
 · exact zanv a1 a2 a3 c1 c2 c3 st l d u w hl hs hv
 · exact zapr a1 a2 a3 c1 c2 c3 st l d u w hl hd hu hs hv
theorem zalt (a1 a2 a3:Option Addr) (c1 c2 c3:Nat) (st:Int) (l:List Lg) (d u:List Dd) (w:World) (hl:l.length≤1048576) (hs:RdB w a1 a2 a3 ⟨⟨st,l⟩,d,u⟩) (hv:svOk ⟨st,l⟩=false) :
 Calls Tryz.prog 12 #[.agg #[.int .i64 st,.slice a1 l.length c1,.slice a2 d.length c2,.slice a3 u.length c3]] w fun e w'=>e=.returned (.bool (bkOk ⟨⟨st,l⟩,d,u⟩))∧Below w.heap.size w w':=by
 rw [zajm hv]
 go_enter Tryz.func12,Tryz.ntmps12
 go_wp2_with (go_at_call 42;refine (zaaa _ _ st l _ hl (hs.l.below qBl)).mono ?_;rintro e w1 ⟨rfl,b1⟩;rw [hv];obtain ⟨hc,hf⟩:=bcell b1)
 go_ret
 exact ⟨rfl,(by repeat (first|with_reducible assumption|with_reducible exact Below.refl _ _|refine Below.setCell ?_ qSo _|refine Below.alloc ?_ qSo _|with_reducible exact Below.trans (Below.refl _ _) b1|refine Below.trans ?_ (Below.mono b1 qSo)|refine below_drewN ?_ _|refine Below.drew ?_))⟩
theorem zanw (a1 a2 a3:Option Addr) (c1 c2 c3:Nat) (st:Int) (l:List Lg) (d u:List Dd) (w:World) (hl:l.length≤1048576) (hd:d.length≤1048576) (hu:u.length≤1048576) (hs:RdB w a1 a2 a3 ⟨⟨st,l⟩,d,u⟩) (hv:svOk ⟨st,l⟩=true) :
 Calls Tryz.prog 12 #[.agg #[.int .i64 st,.slice a1 l.length c1,.slice a2 d.length c2,.slice a3 u.length c3]] w fun e w'=>e=.returned (.bool (bkOk ⟨⟨st,l⟩,d,u⟩))∧Below w.heap.size w w':=by
 obtain ⟨X,hX⟩:=qN (w.heap.size);obtain ⟨W1,hW1⟩:=qM (w.alloc (.cells #[.int .i64 st,.slice a1 l.length c1,.slice a2 d.length c2,.slice a3 u.length c3] 28))
 have G:At W1 X [.int .i64 st,.slice a1 l.length c1,.slice a2 d.length c2,.slice a3 u.length c3]:=by rw [hW1];exact At.new _ _ _ hX.symm rfl
 have b0:Below w.heap.size w W1:=by rw [hW1];exact qBl
 by_cases h40:40<d.length+u.length
 · rw [zahv h40]
   have h41:decide (40<(d.length:Int)+(u.length:Int))=true:=by simp;omega
   go_enter Tryz.func12,Tryz.ntmps12
   go_wp2_with fail;rw [← hW1];clear hW1;refine (zaaa _ _ st l _ hl (hs.l.below b0)).mono ?_;rintro e w1 ⟨rfl,k1⟩;rw [hv];replace G:=G.below k1;replace b0:=b0.trans (k1.mono b0.size);clear k1;obtain ⟨s0,s1,s2,s3,s4,-⟩:=G.facts4;go_wp2_with fail;go_ret
   exact ⟨rfl,b0⟩
 · rw [zamv hv h40]
   have h41:decide (40<(d.length:Int)+(u.length:Int))=false:=by simp;omega
   obtain ⟨⟨⟨rst,rl⟩,many⟩,hR⟩:=qN (ddRun ⟨st,l⟩ d);obtain ⟨⟨⟨qst,ql⟩,more⟩,hQ⟩:=qN (ddRun ⟨rst,rl⟩ u.reverse)
   have hfin:decide ((ddRun ⟨st,l⟩ (d ++ u.reverse)).2=d.length+u.length)=((many:Int) == (d.length:Int) && (more:Int) == (u.length:Int)):=by
    have e1:runFrom ⟨st,l⟩ d=(⟨rst,rl⟩,many):=by rw [← zacl hv];exact hR
    have v1:svOk ⟨rst,rl⟩=true:=by have:=zacp d ⟨st,l⟩ hv;rw [e1] at this;exact this
    have e2:runFrom ⟨rst,rl⟩ u.reverse=(⟨qst,ql⟩,more):=by rw [← zacl v1];exact hQ
    have l1:=zaex d ⟨st,l⟩;have l2:=zaex u.reverse ⟨rst,rl⟩;rw [e1] at l1;rw [e2] at l2;simp only [List.length_reverse] at l1 l2;rw [zacl hv,Bool.eq_iff_iff]
    by_cases hm:many=d.length
    · rw [zacg _ _ _ (by rw [e1];exact hm),e1,e2]
      simp;omega
    · rw [zack _ _ _ (by rw [e1];simp only;omega),e1]
      simp;omega
   have K:=fun (w':World) (h1:Legs w' a1 l) (h2:Dds w' a2 d)=>zaeu a1 c1 st l a2 c2 d w' hl hd h1 h2
   have Q:=fun (a:Option Addr) (c:Nat) (a':Option Addr) (c':Nat) (w':World) (h0:rl.length≤1048576) (h1:Legs w' a rl) (h2:Dds w' a' u.reverse)=>zaeu a c rst rl a' c' u.reverse w' h0 (by simp;omega) h1 h2
   have hrl:rl.length≤9:=by have:=zamu ⟨st,l⟩ d;rw [hR] at this;exact this
   rw [hR] at K;rw [hQ] at Q;rw [hfin];obtain ⟨ur,hur⟩:=qN (u.reverse)
   have hul:ur.length=u.length:=by rw [← hur];simp
   rw [hur] at Q;have HK:=Lib.hid K;have HQ:=Lib.hid Q;have HUL:=Lib.hid hul;have HUR:=Lib.hid hur;clear K Q hR hQ hfin hur hul
   go_enter Tryz.func12,Tryz.ntmps12
   go_wp2_with fail;rw [← hW1];clear hW1;refine (zaaa _ _ st l _ hl (hs.l.below b0)).mono ?_;rintro e w1 ⟨rfl,k1⟩;rw [hv];replace G:=G.below k1;replace b0:=b0.trans (k1.mono b0.size);clear k1;obtain ⟨s0,s1,s2,s3,s4,-⟩:=G.facts4;go_wp2_with fail;refine (HK.out _ (hs.l.below b0) (hs.d.below b0)).mono ?_;rintro e w2 ⟨v2,rfl,o2,k2⟩;obtain ⟨av2,cv2,rfl⟩:=o2.sl;replace G:=G.below k2;replace b0:=b0.trans (k2.mono b0.size);simp only;clear s0 s1 s2 s3 s4 k2;go_upto_region 4 with fail;obtain ⟨Y,hY⟩:=qN (w2.heap.size);obtain ⟨V,hV⟩:=qM (w2.alloc (.cells #[.int .i64 rst,.slice av2 rl.length cv2] 25))
   have c:Below w2.heap.size w2 V:=by rw [hV];exact qBl
   have AY:At V Y [.int .i64 rst,.slice av2 rl.length cv2]:=by rw [hV];exact At.new _ _ _ hY.symm rfl
   rw [hY,← hV];replace G:=G.below c;replace o2:=o2.below c;replace b0:=b0.trans (c.mono b0.size);clear c hV hY;obtain ⟨s0,s1,s2,s3,s4,-⟩:=G.facts4;obtain ⟨t0,t1,t2,-⟩:=AY.facts2;have hr:=o2.kr;have hu2:=hs.u.below b0
   go_cut [5,6] (fun p5 p6 wx=>p6=.int .i64 (more:Int)∧BoxS V ⟨qst,ql⟩ p5 wx)
   case first =>
    go_region_held3 (fun w'=>Below V.heap.size V w'∧∀ b o,b<V.heap.size→w'.cell? ⟨b,o,none⟩=V.cell? ⟨b,o,none⟩) (exact kept qHb)
     (first
     | (go_at_call 44;refine (zapq _ _ u _ hu (hu2.below qHb)).mono ?_;rintro e wy ⟨vy,rfl,oy,c⟩;rw [HUR.out] at oy;obtain ⟨ay,cy,rfl⟩:=oy.sl;have By:=zaae (V:=V) qHb c;have zy:=By.size;(first|have hA0:=A0.lt|skip);(first|have A0:=A0.below c|have A0:=A0.drew.below c|have A0:=At.born c|have A0:=At.bornD c|skip);(first|obtain ⟨j0,j1,j2,j3⟩:=A0.facts2|skip);clear c)
     | (go_at_call 43;refine (HQ.out _ _ _ _ _ qO (hr.below qHb) (by first|exact oy.kr|exact (oy.alloc _).kr)).mono ?_;rintro e wz ⟨vz,rfl,oz,c⟩;obtain ⟨az,cz,rfl⟩:=oz.sl;have Bz:=zaae (V:=V) qHb c;have zz:=Bz.size;(first|have hA0:=A0.lt|skip);(first|have A0:=A0.below c|have A0:=A0.drew.below c|have A0:=At.born c|have A0:=At.bornD c|skip);(first|obtain ⟨q0,q1,q2,q3⟩:=A0.facts2|skip);clear c))
    all_goals (go_wp2_with fail;go_meet)
    all_goals exact ⟨rfl,(by first|with_reducible exact zagz (s:=⟨qst,ql⟩) oz qSo Bz|exact zag0 (s:=⟨qst,ql⟩) A0 qSo oz qSo (by first|exact hA0|simp) Bz)⟩
   case rest =>
    obtain ⟨rfl,B,a,c,rfl,hB,AB,oB,ne,bb⟩:=hcut;replace G:=G.below bb;replace b0:=b0.trans (bb.mono b0.size);clear s0 s1 s2 s3 s4 t0 t1 t2 hr hu2 bb AB oB ne hB;obtain ⟨s0,s1,s2,s3,s4,-⟩:=G.facts4;go_wp2_with fail
    all_goals
     go_ret;refine ⟨?_,by rw [← hX];exact b0⟩
     first
     | exact congrArg (fun b=>Ending.returned (Value.bool b)) (show ((more:Int) == (u.length:Int))=_ from rfl)
     | exact congrArg (fun b=>Ending.returned (Value.bool b)) (show false=((many:Int) == (d.length:Int) && (more:Int) == (u.length:Int)) from by simp_all)
theorem zaak (a1 a2 a3:Option Addr) (c1 c2 c3:Nat) (st:Int) (l:List Lg) (d u:List Dd) (w:World) (hl:l.length≤1048576) (hd:d.length≤1048576) (hu:u.length≤1048576) (hs:RdB w a1 a2 a3 ⟨⟨st,l⟩,d,u⟩) :
 Calls Tryz.prog 12 #[.agg #[.int .i64 st,.slice a1 l.length c1,.slice a2 d.length c2,.slice a3 u.length c3]] w fun e w'=>e=.returned (.bool (bkOk ⟨⟨st,l⟩,d,u⟩))∧Below w.heap.size w w':=by
 cases hv:svOk ⟨st,l⟩
 · exact zalt a1 a2 a3 c1 c2 c3 st l d u w hl hs hv
 · exact zanw a1 a2 a3 c1 c2 c3 st l d u w hl hd hu hs hv
set_option maxHeartbeats 1000000
theorem zahw {b:Bk} (h:bkOk b=false):bkNow b=zeroSv:=by simp [bkNow,h]
theorem zajn {b:Bk} (h:bkOk b=true):bkNow b=(ddRun b.first b.done).1:=by
 rw [zacl (bkOk_iff.1 h).1];simp [bkNow,h]
theorem zahx (b:Bk):(bkNow b).legs.length≤9:=by
 cases h:bkOk b
 · rw [zahw h];exact Nat.zero_le _
 · rw [zajn h];exact zamu _ _
theorem zadg (a1 a2 a3:Option Addr) (c1 c2 c3:Nat) (st:Int) (l:List Lg) (d u:List Dd) (w:World) (hl:l.length≤1048576) (hd:d.length≤1048576) (hu:u.length≤1048576) (hs:RdB w a1 a2 a3 ⟨⟨st,l⟩,d,u⟩) :
 Calls Tryz.prog 19 #[.agg #[.int .i64 st,.slice a1 l.length c1,.slice a2 d.length c2,.slice a3 u.length c3]] w (SvRet (bkNow ⟨⟨st,l⟩,d,u⟩) w):=by
 obtain ⟨X,hX⟩:=qN (w.heap.size);obtain ⟨W1,hW1⟩:=qM ((w.alloc (.cells #[.int .i64 st,.slice a1 l.length c1,.slice a2 d.length c2,.slice a3 u.length c3] 28)).alloc (.cells #[.int .i64 0,.slice none 0 0] 25))
 have G:At W1 X [.int .i64 st,.slice a1 l.length c1,.slice a2 d.length c2,.slice a3 u.length c3]:=by rw [hW1];exact (At.new _ _ _ hX.symm rfl).alloc _
 have R:At W1 (X+1) [.int .i64 0,.slice none 0 0]:=by rw [hW1];exact At.new _ _ _ (by simp [hX]) rfl
 have b0:Below w.heap.size w W1:=by rw [hW1];exact qBl
 cases hv:bkOk ⟨⟨st,l⟩,d,u⟩
 · rw [zahw hv]
   go_enter Tryz.func19,Tryz.ntmps19
   go_wp2_with fail;rw [← hW1];clear hW1;refine (zaan _ _ _ _ _ _ st l d u _ hl hd hu (hs.below b0)).mono ?_;rintro e w1 ⟨rfl,k1⟩;rw [hv];replace R:=R.below k1;replace b0:=b0.trans (k1.mono b0.size);clear k1 G;obtain ⟨r0,r1,r2,r3⟩:=R.facts2;go_wp2_with fail;obtain ⟨f0,f1,f2,-⟩:=((R.set 0 (.int .i64 0)).set 1 (.slice none 0 0)).facts2;refine bodyPost_ret (v:=.agg #[.int .i64 0,.slice none 0 0]) (by simp [results,Tryz.results19,go_sem,f1,f2]) rfl ⟨_,rfl,KOwn.nil,?_⟩
   exact (b0.setCell (p:=⟨X+1,0,none⟩) (by show _≤X+1;omega) _).setCell (p:=⟨X+1,1,none⟩) (by show _≤X+1;omega) _
 · rw [zajn hv]
   show Calls Tryz.prog 19 _ w (SvRet (ddRun ⟨st,l⟩ d).1 w)
   have K:=fun (w':World) (h1:Legs w' a1 l) (h2:Dds w' a2 d)=>zahu a1 c1 st l a2 c2 d w' hl hd h1 h2
   obtain ⟨⟨⟨rst,rl⟩,many⟩,hR⟩:=qN (ddRun ⟨st,l⟩ d);rw [hR] at K ⊢;have HK:=Lib.hid K;clear K hR
   go_enter Tryz.func19,Tryz.ntmps19
   go_wp2_with fail;rw [← hW1];clear hW1;refine (zaan _ _ _ _ _ _ st l d u _ hl hd hu (hs.below b0)).mono ?_;rintro e w1 ⟨rfl,k1⟩;rw [hv];replace R:=R.below k1;replace G:=G.below k1;replace b0:=b0.trans (k1.mono b0.size);clear k1;obtain ⟨s0,s1,s2,s3,s4,-⟩:=G.facts4;go_wp2_with fail;refine (HK.out _ (hs.l.below b0) (hs.d.below b0)).mono ?_;rintro e w2 ⟨v2,rfl,o2,k2⟩;obtain ⟨av2,cv2,rfl⟩:=o2.sl;have hXw:=R.lt;replace R:=R.below k2;replace b0:=b0.trans (k2.mono b0.size);have hB:w.heap.size≤w1.heap.size:=qO;simp only;clear s0 s1 s2 s3 s4 k2 G;obtain ⟨r0,r1,r2,r3⟩:=R.facts2;go_wp2_with fail;obtain ⟨f0,f1,f2,-⟩:=(((R.set 0 (.int .i64 rst)).set 1 (.slice av2 rl.length cv2)).alloc (.cells #[.int .i64 rst,.slice av2 rl.length cv2] 25)).facts2;refine bodyPost_ret (v:=.agg #[.int .i64 rst,.slice av2 rl.length cv2]) (by simp [results,Tryz.results19,go_sem,f1,f2]) rfl ⟨_,rfl,?_,?_⟩
   · exact (((o2.setCell (p:=⟨X+1,0,none⟩) (by show X+1<_;omega) _).setCell (p:=⟨X+1,1,none⟩) (by show X+1<_;omega) _).alloc _).mono hB
   · exact ((b0.setCell (p:=⟨X+1,0,none⟩) (by show _≤X+1;omega) _).setCell (p:=⟨X+1,1,none⟩) (by show _≤X+1;omega) _).alloc (by have:=b0.size;simp [World.setCell];omega) _
theorem zad3 (a1 a2 a3:Option Addr) (c1 c2 c3:Nat) (st:Int) (l:List Lg) (d u:List Dd) (w:World) (hl:l.length≤1048576) (hd:d.length≤1048576) (hu:u.length≤1048576) (hs:RdB w a1 a2 a3 ⟨⟨st,l⟩,d,u⟩) :
 Calls Tryz.prog 80 #[.agg #[.int .i64 st,.slice a1 l.length c1,.slice a2 d.length c2,.slice a3 u.length c3]] w (SvRet (bkNow ⟨⟨st,l⟩,d,u⟩) w):=by
 obtain ⟨X,hX⟩:=qN (w.heap.size);obtain ⟨W1,hW1⟩:=qM ((w.alloc (.cells #[.int .i64 st,.slice a1 l.length c1,.slice a2 d.length c2,.slice a3 u.length c3] 28)).alloc (.cells #[.int .i64 0,.slice none 0 0] 25))
 have G:At W1 X [.int .i64 st,.slice a1 l.length c1,.slice a2 d.length c2,.slice a3 u.length c3]:=by rw [hW1];exact (At.new _ _ _ hX.symm rfl).alloc _
 have R:At W1 (X+1) [.int .i64 0,.slice none 0 0]:=by rw [hW1];exact At.new _ _ _ (by simp [hX]) rfl
 have b0:Below w.heap.size w W1:=by rw [hW1];exact qBl
 cases hv:bkOk ⟨⟨st,l⟩,d,u⟩
 · rw [zahw hv]
   go_enter Tryz.func80,Tryz.ntmps80
   go_wp2_with fail;rw [← hW1];clear hW1;refine (zaak _ _ _ _ _ _ st l d u _ hl hd hu (hs.below b0)).mono ?_;rintro e w1 ⟨rfl,k1⟩;rw [hv];replace R:=R.below k1;replace b0:=b0.trans (k1.mono b0.size);clear k1 G;obtain ⟨r0,r1,r2,r3⟩:=R.facts2;go_wp2_with fail;obtain ⟨f0,f1,f2,-⟩:=((R.set 0 (.int .i64 0)).set 1 (.slice none 0 0)).facts2;refine bodyPost_ret (v:=.agg #[.int .i64 0,.slice none 0 0]) (by simp [results,Tryz.results80,go_sem,f1,f2]) rfl ⟨_,rfl,KOwn.nil,?_⟩
   exact (b0.setCell (p:=⟨X+1,0,none⟩) (by show _≤X+1;omega) _).setCell (p:=⟨X+1,1,none⟩) (by show _≤X+1;omega) _
 · rw [zajn hv]
   show Calls Tryz.prog 80 _ w (SvRet (ddRun ⟨st,l⟩ d).1 w)
   have K:=fun (w':World) (h1:Legs w' a1 l) (h2:Dds w' a2 d)=>zaeu a1 c1 st l a2 c2 d w' hl hd h1 h2
   obtain ⟨⟨⟨rst,rl⟩,many⟩,hR⟩:=qN (ddRun ⟨st,l⟩ d);rw [hR] at K ⊢;have HK:=Lib.hid K;clear K hR
   go_enter Tryz.func80,Tryz.ntmps80
   go_wp2_with fail;rw [← hW1];clear hW1;refine (zaak _ _ _ _ _ _ st l d u _ hl hd hu (hs.below b0)).mono ?_;rintro e w1 ⟨rfl,k1⟩;rw [hv];replace R:=R.below k1;replace G:=G.below k1;replace b0:=b0.trans (k1.mono b0.size);clear k1;obtain ⟨s0,s1,s2,s3,s4,-⟩:=G.facts4;go_wp2_with fail;refine (HK.out _ (hs.l.below b0) (hs.d.below b0)).mono ?_;rintro e w2 ⟨v2,rfl,o2,k2⟩;obtain ⟨av2,cv2,rfl⟩:=o2.sl;have hXw:=R.lt;replace R:=R.below k2;replace b0:=b0.trans (k2.mono b0.size);have hB:w.heap.size≤w1.heap.size:=qO;simp only;clear s0 s1 s2 s3 s4 k2 G;obtain ⟨r0,r1,r2,r3⟩:=R.facts2;go_wp2_with fail;obtain ⟨f0,f1,f2,-⟩:=(((R.set 0 (.int .i64 rst)).set 1 (.slice av2 rl.length cv2)).alloc (.cells #[.int .i64 rst,.slice av2 rl.length cv2] 25)).facts2;refine bodyPost_ret (v:=.agg #[.int .i64 rst,.slice av2 rl.length cv2]) (by simp [results,Tryz.results80,go_sem,f1,f2]) rfl ⟨_,rfl,?_,?_⟩
   · exact (((o2.setCell (p:=⟨X+1,0,none⟩) (by show X+1<_;omega) _).setCell (p:=⟨X+1,1,none⟩) (by show X+1<_;omega) _).alloc _).mono hB
   · exact ((b0.setCell (p:=⟨X+1,0,none⟩) (by show _≤X+1;omega) _).setCell (p:=⟨X+1,1,none⟩) (by show _≤X+1;omega) _).alloc (by have:=b0.size;simp [World.setCell];omega) _
set_option maxHeartbeats 16000000
theorem zaps {w W wz:World} {X B1 B2 B3:Nat} {st:Int} {u0 u1 u2 u3 v1 v2 v3:Value} {b:Bk} (hX:w.heap.size≤X) (hW:X+1<W.heap.size) (R:At wz (X+1) [u0,u1,u2,u3]) (o1:OwnL wz B1 v1 b.first.legs) (o2:OwnD wz B2 v2 b.done) (o3:OwnD wz B3 v3 b.undone)
 (h1:W.heap.size≤B1) (h2:W.heap.size≤B2) (h3:W.heap.size≤B3) (n12:∀ k,v1.ownBlock=some k→v2.ownBlock≠some k) (n13:∀ k,v1.ownBlock=some k→v3.ownBlock≠some k) (n23:∀ k,v2.ownBlock=some k→v3.ownBlock≠some k) (hb:Below (X+1) W wz) (b0:Below w.heap.size w W) :
 At ((((wz.setCell ⟨X+1,0,none⟩ (.int .i64 st)).setCell ⟨X+1,1,none⟩ v1).setCell ⟨X+1,2,none⟩ v2).setCell ⟨X+1,3,none⟩ v3) (X+1) [.int .i64 st,v1,v2,v3] ∧
 BkOwn ((((wz.setCell ⟨X+1,0,none⟩ (.int .i64 st)).setCell ⟨X+1,1,none⟩ v1).setCell ⟨X+1,2,none⟩ v2).setCell ⟨X+1,3,none⟩ v3) w.heap.size v1 v2 v3 b ∧
 Below w.heap.size w ((((wz.setCell ⟨X+1,0,none⟩ (.int .i64 st)).setCell ⟨X+1,1,none⟩ v1).setCell ⟨X+1,2,none⟩ v2).setCell ⟨X+1,3,none⟩ v3):=by
 refine ⟨R.sets4 _ _ _ _,⟨?_,?_,?_,n12,n13,n23⟩,?_⟩
 · exact ((((o1.setCell (p:=⟨X+1,0,none⟩) (by show X+1<_;omega) _).setCell (p:=⟨X+1,1,none⟩) (by show X+1<_;omega) _).setCell (p:=⟨X+1,2,none⟩) (by show X+1<_;omega) _).setCell (p:=⟨X+1,3,none⟩) (by show X+1<_;omega) _).mono qO
 · exact ((((o2.setCell (p:=⟨X+1,0,none⟩) (by show X+1<_;omega) _).setCell (p:=⟨X+1,1,none⟩) (by show X+1<_;omega) _).setCell (p:=⟨X+1,2,none⟩) (by show X+1<_;omega) _).setCell (p:=⟨X+1,3,none⟩) (by show X+1<_;omega) _).mono qO
 · exact ((((o3.setCell (p:=⟨X+1,0,none⟩) (by show X+1<_;omega) _).setCell (p:=⟨X+1,1,none⟩) (by show X+1<_;omega) _).setCell (p:=⟨X+1,2,none⟩) (by show X+1<_;omega) _).setCell (p:=⟨X+1,3,none⟩) (by show X+1<_;omega) _).mono qO
 · have hb':=b0.trans (hb.mono qO)
   exact (((hb'.setCell (p:=⟨X+1,0,none⟩) (by show _≤X+1;omega) _).setCell (p:=⟨X+1,1,none⟩) (by show _≤X+1;omega) _).setCell (p:=⟨X+1,2,none⟩) (by show _≤X+1;omega) _).setCell (p:=⟨X+1,3,none⟩) (by show _≤X+1;omega) _
theorem zab0 (a1 a2 a3:Option Addr) (c1 c2 c3:Nat) (st:Int) (l:List Lg) (d u:List Dd) (w:World) (hl:l.length≤1048576) (hd:d.length≤1048576) (hu:u.length≤1048576) (hs:RdB w a1 a2 a3 ⟨⟨st,l⟩,d,u⟩) :
 Calls Tryz.prog 39 #[.agg #[.int .i64 st,.slice a1 l.length c1,.slice a2 d.length c2,.slice a3 u.length c3]] w (BkRet ⟨⟨st,l⟩,d,u⟩ w):=by
 obtain ⟨X,hX⟩:=qN (w.heap.size);obtain ⟨W1,hW1⟩:=qM ((w.alloc (.cells #[.int .i64 st,.slice a1 l.length c1,.slice a2 d.length c2,.slice a3 u.length c3] 28)).alloc (.cells #[.int .i64 0,.slice none 0 0,.slice none 0 0,.slice none 0 0] 28))
 have G:At W1 X [.int .i64 st,.slice a1 l.length c1,.slice a2 d.length c2,.slice a3 u.length c3]:=by rw [hW1];exact (At.new _ _ _ hX.symm rfl).alloc _
 have R:At W1 (X+1) [.int .i64 0,.slice none 0 0,.slice none 0 0,.slice none 0 0]:=by rw [hW1];exact At.new _ _ _ (by simp [hX]) rfl
 have b0:Below w.heap.size w W1:=by rw [hW1];exact qBl
 go_enter Tryz.func39,Tryz.ntmps39
 go_wp2_with fail;rw [← hW1];clear hW1;obtain ⟨s0,s1,s2,s3,s4,-⟩:=G.facts4;have hX2:X+1<W1.heap.size:=R.lt;have hX1:X+1≤W1.heap.size:=qO
 have rl:=Lib.hid (show ∀ W',Below (X+1) W1 W'→Legs W' a1 l from fun W' h=>hs.l.below (b0.trans (h.mono qO)))
 have rd:=Lib.hid (show ∀ W',Below (X+1) W1 W'→Dds W' a2 d from fun W' h=>hs.d.below (b0.trans (h.mono qO)))
 have ru:=Lib.hid (show ∀ W',Below (X+1) W1 W'→Dds W' a3 u from fun W' h=>hs.u.below (b0.trans (h.mono qO)))
 have sX:X<X+1:=qO;have hb0:=b0.size;clear hs
 go_region_held3 (fun w'=>Below ((X+1)) W1 w'∧∀ b o,b<(X+1)→w'.cell? ⟨b,o,none⟩=W1.cell? ⟨b,o,none⟩) (exact keptB qHb)
  (first
  | (go_at_call 48;refine (zaai a1 c1 st l _ hl (rl.out _ qHb)).mono ?_;rintro e w5 ⟨v1,rfl,o1,c⟩;obtain ⟨av1,cv1,rfl⟩:=o1.sl;have B5:=zabv hX1 qHb c;have z5:=B5.size;have y5:=c.size;have p1:=fun k hk=>o1.lt (k:=k) hk;(first|have o2:=o2.below c|skip);(first|have o3:=o3.below c|skip);(first|have R:=R.below c|have R:=R.drew.below c);obtain ⟨i0,i1,i2,i3,i4,i5⟩:=R.facts4;clear c)
  | (go_at_call 75;refine (zafh a2 c2 d _ hd (rd.out _ qHb)).mono ?_;rintro e w6 ⟨v2,rfl,o2,c⟩;obtain ⟨av2,cv2,rfl⟩:=o2.sl;have B6:=zabv hX1 qHb c;have z6:=B6.size;have y6:=c.size;have p2:=fun k hk=>o2.lt (k:=k) hk;(first|have o1:=o1.below c|skip);(first|have o3:=o3.below c|skip);(first|have R:=R.below c|have R:=R.drew.below c);obtain ⟨j0,j1,j2,j3,j4,j5⟩:=R.facts4;clear c)
  | (go_at_call 75;refine (zafh a3 c3 u _ hu (ru.out _ qHb)).mono ?_;rintro e w7 ⟨v3,rfl,o3,c⟩;obtain ⟨av3,cv3,rfl⟩:=o3.sl;have B7:=zabv hX1 qHb c;have z7:=B7.size;have y7:=c.size;have p3:=fun k hk=>o3.lt (k:=k) hk;(first|have o1:=o1.below c|skip);(first|have o2:=o2.below c|skip);(first|have R:=R.below c|have R:=R.drew.below c);obtain ⟨k0,k1,k2,k3,k4,k5⟩:=R.facts4;clear c))
 all_goals
  obtain ⟨AE,oE,bE⟩:=zaps (b:=⟨⟨st,l⟩,d,u⟩) (st:=st) (w:=w) (W:=W1) qO qO R o1 o2 o3 (by first|omega|exact Nat.le_refl _) (by first|omega|exact Nat.le_refl _) (by first|omega|exact Nat.le_refl _) (fun k h1 h2=>by have:=p1 k h1;have:=p2 k h2;omega) (fun k h1 h2=>by have:=p1 k h1;have:=p3 k h2;omega) (fun k h1 h2=>by have:=p2 k h1;have:=p3 k h2;omega) (by assumption) b0
  obtain ⟨f0,f1,f2,f3,f4,-⟩:=AE.facts4;go_wp2_with fail
  exact bodyPost_ret (v:=.agg #[.int .i64 st,.slice av1 l.length cv1,.slice av2 d.length cv2,.slice av3 u.length cv3]) (by simp [results,Tryz.results39,go_sem,f1,f2,f3,f4]) rfl ⟨_,_,_,rfl,oE,bE⟩
def App0 {α:Type} (K:Kind α) (T:TypeId) (w:World) (B g:Nat) (v:Value) (ys:List α):Prop:=(ys=[]∧v=.slice (some ⟨g,0,none⟩) 0 0)∨KOwn K T w B v ys
section
variable {P:Program} {α:Type} {K:Kind α} {T t:TypeId} {w w':World} {B g:Nat} {v:Value} {ys:List α}
theorem App0.below (h:App0 K T w B g v ys) (c:Below w.heap.size w w'):App0 K T w' B g v ys:=h.imp id fun h=>h.below c
theorem App0.rng (h:App0 K T w B g v ys):∀ k,v.ownBlock=some k→k=g∨(B≤k∧k<w.heap.size):=by
 intro k hk
 rcases h with ⟨_,rfl⟩|h
 · cases hk;exact .inl rfl
 · exact .inr (World.ownsRow.lt h k hk)
theorem App0.own {B':Nat} (h:App0 K T w B g v ys) (hg:w.heap[g]?=some (.cells #[] T (0,0))) (h1:B'≤g) (h2:B'≤B):KOwn K T w B' v ys:=by
 rcases h with ⟨rfl,rfl⟩|h
 · refine ⟨by simp [zabi],.inr ⟨g,0,#[],rfl,h1,hg,Nat.le_refl _,by decide,by simp,by simp [zabi]⟩⟩
 · exact h.mono h2
theorem zauv [Inhabited α] (I:KInfo P K T t) (ty:TypeId) {A:Option Addr} (c:Nat) (hy:KRd K w A ys) (hl2:ys.length≤2097160) :
 ∃ av cv w',(Builtin.append_ #[t,t] ty #[.slice (some ⟨g,0,none⟩) 0 0,.slice A ys.length c]).run P w=.ok (.slice av ys.length cv) w'∧App0 K T w' w.heap.size g (.slice av ys.length cv) ys∧Below w.heap.size w w':=by
 obtain ⟨i,z,bytes,hi,hz0,hz1,hz2,hz3,hz4⟩:=I.info
 by_cases h0:0<ys.length
 · obtain ⟨b,o,rfl,_⟩:=hy.addr h0
   obtain ⟨v',w',hr,ho,hg⟩:=run_append_arg_grows (P:=P) w t ty T i z K.sz bytes I.und hi hz0 hz1 hz2 hz3 I.pos ⟨g,0,none⟩ 0 0 [] qP qP ⟨b,o,none⟩ ys.length c (K.flat ys) (zaau ys) hy.cellsA qO (by unfold maxLen;omega) (Nat.le_trans (Nat.mul_le_mul_left _ hz4) qO)
   have h2':KOwn K T w' w.heap.size v' ys:=by unfold KOwn;simpa using ho
   obtain ⟨a,c',rfl⟩:=h2'.sl
   exact ⟨a,c',w',hr,.inr h2',zaga hg (Nat.le_refl _) fun k hk=>by cases hk⟩
 · have e:ys=[]:=List.eq_nil_of_length_eq_zero qO
   subst e
   refine ⟨some ⟨g,0,none⟩,0,w,?_,.inl ⟨rfl,rfl⟩,Below.refl _ _⟩
   cases A <;> simp [Builtin.append_,run_underlying I.und,sizeOf,typeInfo,hi,Builtin.lenOf,Builtin.firstCells,storeCells,loadCells,loadCellsFrom]
theorem zakq [Inhabited α] (I:KInfo P K T t) {ops:Array Oper} {o:Oper} {a:Act} {K':Act→World→Prop} {Q:Exit→Act→World→Prop} {E:Prop} (s x:Operand) (hg:o.guard=none)
 (hop:o.op=.call { callee:=.builtin .append,args:=#[s,x],argTypes:=#[t,t] }) (g:Nat) (ys:List α) (A:Option Addr) (c:Nat) (hs:a.eval s=.slice (some ⟨g,0,none⟩) 0 0) (hx:a.eval x=.slice A ys.length c) (hy:KRd K w A ys) (hl2:ys.length≤2097160)
 (hK:∀ av cv w',App0 K T w' w.heap.size g (.slice av ys.length cv) ys→Below w.heap.size w w'→K' (a.put o.dst (.slice av ys.length cv)) w') :
 if Region.wanted o (yielded ops a.tmps)=true then Oper.wp P o a w K' Q else E:=by
 have hw:Region.wanted o (yielded ops a.tmps)=true:=by simp [Region.wanted,hg]
 rw [if_pos hw];obtain ⟨av,cv,w',hr,h1,h2⟩:=zauv (g:=g) I o.type c hy hl2;unfold Oper.wp execOp;simp only [hop,resolve,invoke,builtin,Sem.run_bind,Sem.run_pure,Result.andThen_ok,List.map_toArray,List.map_cons,List.map_nil,hs,hx,hr]
 exact hK av cv w' h1 h2
end
theorem zabw (a1 a2 a3:Option Addr) (c1 c2 c3:Nat) (st:Int) (l:List Lg) (d u:List Dd) (w:World) (hl:l.length≤1048576) (hd:d.length≤1048576) (hu:u.length≤1048576) (hs:RdB w a1 a2 a3 ⟨⟨st,l⟩,d,u⟩) :
 Calls Tryz.prog 40 #[.agg #[.int .i64 st,.slice a1 l.length c1,.slice a2 d.length c2,.slice a3 u.length c3]] w (BkRet ⟨⟨st,l⟩,d,u⟩ w):=by
 obtain ⟨X,hX⟩:=qN (w.heap.size);obtain ⟨W1,hW1⟩:=qM ((w.alloc (.cells #[.int .i64 st,.slice a1 l.length c1,.slice a2 d.length c2,.slice a3 u.length c3] 28)).alloc (.cells #[.int .i64 0,.slice none 0 0,.slice none 0 0,.slice none 0 0] 28))
 have G:At W1 X [.int .i64 st,.slice a1 l.length c1,.slice a2 d.length c2,.slice a3 u.length c3]:=by rw [hW1];exact (At.new _ _ _ hX.symm rfl).alloc _
 have R:At W1 (X+1) [.int .i64 0,.slice none 0 0,.slice none 0 0,.slice none 0 0]:=by rw [hW1];exact At.new _ _ _ (by simp [hX]) rfl
 have b0:Below w.heap.size w W1:=by rw [hW1];exact qBl
 go_enter Tryz.func40,Tryz.ntmps40
 go_wp2_with fail;rw [← hW1];clear hW1;obtain ⟨s0,s1,s2,s3,s4,-⟩:=G.facts4;have hX2:X+1<W1.heap.size:=R.lt;have hX3:X+1+1≤W1.heap.size:=qO;have hX1:X+1≤W1.heap.size:=qO
 have rl:=Lib.hid (show ∀ W',Below (X+1) W1 W'→Legs W' a1 l from fun W' h=>hs.l.below (b0.trans (h.mono qO)))
 have rd:=Lib.hid (show ∀ W',Below (X+1) W1 W'→Dds W' a2 d from fun W' h=>hs.d.below (b0.trans (h.mono qO)))
 have ru:=Lib.hid (show ∀ W',Below (X+1) W1 W'→Dds W' a3 u from fun W' h=>hs.u.below (b0.trans (h.mono qO)))
 have rR:=Lib.hid (show ∀ W',Below (X+1+1) W1 W'→At W' (X+1) [.int .i64 0,.slice none 0 0,.slice none 0 0,.slice none 0 0] from fun W' h=>R.belowB h qO)
 have sX:X<X+1:=qO;have hb0:=b0.size;clear hs R G
 go_region_held3 (fun w'=>Below ((X+1)) W1 w'∧∀ b o,b<(X+1)→w'.cell? ⟨b,o,none⟩=W1.cell? ⟨b,o,none⟩) (exact keptB qHb)
  (first
  | (refine zakq ddI (.tmp 6) (.tmp 8) (by rfl) (by rfl) _ d a2 c2 (by rfl) (by rfl) (rd.out _ qHb) qO ?_;rintro av2 cv2 w6 o2 cB;have B6:=zabv hX1 qHb cB;have D6:=zabv hX3 qHb cB;have z6:=B6.size;have y6:=cB.size;have p2:=o2.rng;(first|have o1:=o1.below cB|have o1:=o1.below (zabe cB)|have o1:=o1.below (zabe (zabe cB))|skip);(first|have o3:=o3.below cB|have o3:=o3.below (zabe cB)|have o3:=o3.below (zabe (zabe cB))|skip);obtain ⟨j0,j1,j2,j3,j4,j5⟩:=(rR.out _ D6).facts4)
  | (refine zakq ddI (.tmp 10) (.tmp 12) (by rfl) (by rfl) _ u a3 c3 (by rfl) (by rfl) (ru.out _ qHb) qO ?_;rintro av3 cv3 w7 o3 cC;have B7:=zabv hX1 qHb cC;have D7:=zabv hX3 qHb cC;have z7:=B7.size;have y7:=cC.size;have p3:=o3.rng;(first|have o1:=o1.below cC|have o1:=o1.below (zabe cC)|have o1:=o1.below (zabe (zabe cC))|skip);(first|have o2:=o2.below cC|have o2:=o2.below (zabe cC)|have o2:=o2.below (zabe (zabe cC))|skip);obtain ⟨k0,k1,k2,k3,k4,k5⟩:=(rR.out _ D7).facts4)
  | (go_at_call 83;refine (zaah a1 c1 st l _ hl (rl.out _ qHb)).mono ?_;rintro e w5 ⟨v1,rfl,o1,cA⟩;obtain ⟨av1,cv1,rfl⟩:=o1.sl;have B5:=zabv hX1 qHb cA;have D5:=zabv hX3 qHb cA;have z5:=B5.size;have y5:=cA.size;have p1:=fun k hk=>o1.lt (k:=k) hk;(first|have o2:=o2.below cA|have o2:=o2.below (zabe cA)|have o2:=o2.below (zabe (zabe cA))|skip);(first|have o3:=o3.below cA|have o3:=o3.below (zabe cA)|have o3:=o3.below (zabe (zabe cA))|skip);obtain ⟨i0,i1,i2,i3,i4,i5⟩:=(rR.out _ D5).facts4))
 all_goals
  clear s0 s1 s2 s3 s4 i0 i1 i2 i3 i4 i5 j0 j1 j2 j3 j4 j5 k0 k1 k2 k3 k4 k5 rl rd ru
  simp at y5 y6 y7
  have O2:=App0.own (B':=W1.heap.size) o2 (by repeat (first|exact Deep.blk_alloc_new _ _|exact zako _ _ _ (by first|rfl|(simp;done)|omega)|refine (Deep.blk_alloc_lt _ _ _ qSo).trans ?_|refine (cA.block _ qSo).trans ?_|refine (cB.block _ qSo).trans ?_|refine (cC.block _ qSo).trans ?_)) qSo qSo
  have O3:=App0.own (B':=W1.heap.size) o3 (by repeat (first|exact Deep.blk_alloc_new _ _|exact zako _ _ _ (by first|rfl|(simp;done)|omega)|refine (Deep.blk_alloc_lt _ _ _ qSo).trans ?_|refine (cA.block _ qSo).trans ?_|refine (cB.block _ qSo).trans ?_|refine (cC.block _ qSo).trans ?_)) qSo qSo
  have R:=rR.out _ (by assumption)
  obtain ⟨AE,oE,bE⟩:=zaps (b:=⟨⟨st,l⟩,d,u⟩) (st:=st) (w:=w) (W:=W1) qO qO R o1 O2 O3 qSo (Nat.le_refl _) (Nat.le_refl _) (fun k h1 h2=>by have a:=p1 k h1;have b:=p2 k h2;(try simp at a);(try simp at b);omega) (fun k h1 h2=>by have a:=p1 k h1;have b:=p3 k h2;(try simp at a);(try simp at b);omega) (fun k h1 h2=>by have a:=p2 k h1;have b:=p3 k h2;(try simp at a);(try simp at b);omega) (by assumption) b0
  obtain ⟨f0,f1,f2,f3,f4,-⟩:=AE.facts4;go_wp2_with fail
  exact bodyPost_ret (v:=.agg #[.int .i64 st,.slice av1 l.length cv1,.slice av2 d.length cv2,.slice av3 u.length cv3]) (by simp [results,Tryz.results40,go_sem,f1,f2,f3,f4]) rfl ⟨_,_,_,rfl,oE,bE⟩
end Go.Proofs.YthfoloefkfadlaaGreatDoor
