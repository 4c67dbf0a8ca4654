/- Walks: parts of a survey, impl (ownParts, joinParts, countParts, Parts, PartsMany, LoopsMany), and spec.PartsMany, spec.LoopsMany. -/
import Derived.Test.YthfoloefkfadlaaGreatDoorF1
import Derived.Test.YthfoloefkfadlaaGreatDoorM2
import Derived.Test.YthfoloefkfadlaaGreatDoorK9
import Derived.Test.YthfoloefkfadlaaGreatDoorP1
import Derived.Test.YthfoloefkfadlaaGreatDoorM0
import Derived.BigRegion
set_option linter.unusedSimpArgs false
set_option linter.unusedVariables false
set_option maxHeartbeats 1000000
set_option maxRecDepth 100000
namespace Go.Proofs.YthfoloefkfadlaaGreatDoor
open Go Go.RowKit Go.Sort
theorem At.wr {R:Nat→Prop} {w w':World} {X:Nat} {vs:List Value} (h:At w X vs) (hw:Wr R w w') (hr:¬ R X):At w' X vs:=h.block (hw.block X h.lt hr)
theorem zauz (n:Nat):rowF n (fun j=>if j<n then (j:Int) else 0)=ownF n:=by
 unfold rowF ownF
 exact List.map_congr_left fun j hj=>by rw [if_pos (List.mem_range.1 hj)]
theorem zah3 (n:Nat) (w:World) (hn:n≤1000):Calls Tryz.prog 209 #[.int .i64 (n:Int)] w fun e w'=>e=.returned (.slice (some ⟨w.heap.size,0,none⟩) n n)∧OwnZ w' w.heap.size (.slice (some ⟨w.heap.size,0,none⟩) n n) (ownF n)∧Below w.heap.size w w':=by
 have mi:=zacm n qO w;have nn:(0:Int)≤(n:Int):=qO;have h0:=OwnZ.made w w.heap.size n (Nat.le_refl _) qO
 rw [zaeo,zaa7 (G:=fun j=>if j<0 then (j:Int) else 0) fun j _=>by rw [if_neg qO]] at h0
 have H0:=Lib.hid h0;have HE:=Lib.hid (zauz n);clear h0
 go_enter Tryz.func209,Tryz.ntmps209
 go_wp2_with fail
 go_loopw [9] (fun i wr=>∃ q:Nat,q≤n∧i=.int .i64 q∧OwnZ wr w.heap.size (.slice (some ⟨w.heap.size,0,none⟩) n n) (rowF n fun j=>if j<q then (j:Int) else 0)∧Below w.heap.size w wr) (fun i _=>n - (intOf i).toNat)
 case atStart=>exact ⟨0,by omega,rfl,H0.out,qBl⟩
 case round =>
  obtain ⟨q,hq,rfl,ho,hb⟩:=hrel
  by_cases hlt:q<n
  · have hq2:(q:Int)<(n:Int):=by omega
    obtain ⟨g,hgg,-,hgB,hgw,hgc,hgf⟩:=OwnZ.form1 ho (by rw [zaas];omega)
    cases hgg
    have c1:=hgc q (by rw [zaas];exact hlt);have f1:=hgf q
    obtain ⟨x,hx⟩:=qN (nth (rowF n fun j=>if j<q then (j:Int) else 0) q)
    rw [hx] at c1;clear hgc hgf hx;go_wp2_with fail;go_roundw
    case rel =>
     have h2:=OwnZ.put ho (k:=q) (by rw [zaas];exact hlt) (q:Int)
     rw [zadn,zaa7 (G:=fun j=>if j<q+1 then (j:Int) else 0) fun j _=>by
      by_cases e:j=q
      · rw [if_pos e,if_pos qO,e]
      · rw [if_neg e]
        by_cases e2:j<q
        · rw [if_pos e2,if_pos qO]
        · rw [if_neg e2,if_neg qO]] at h2
     exact ⟨q+1,by omega,by go_num,h2,hb.setCell (p:=⟨w.heap.size,q,none⟩) (Nat.le_refl _) _⟩
    case measure=>simp [intOf];omega
  · obtain rfl:q=n:=by omega
    rw [HE.out] at ho;go_wp2_with fail;go_ret
    exact ⟨rfl,ho,hb⟩
theorem zakv {p:List Int} {a b:Int} (h:nth p a.toNat=nth p b.toNat):joinF p a b=p:=by
 unfold joinF;rw [h,Int.max_self,Int.min_self]
 refine zabf qP fun k hk=>?_
 rw [zab5 (by simpa using hk)]
 split
 · rename_i e;exact e.symm
 · rfl
theorem zahd (B g n c:Nat) (p:List Int) (f t:Nat) (w:World) (hn:p.length=n) (hf:f<n) (ht:t<n) (hn2:n≤1000) (ho:OwnZ w B (.slice (some ⟨g,0,none⟩) n c) p) :
 Calls Tryz.prog 210 #[.slice (some ⟨g,0,none⟩) n c,.int .i64 (f:Int),.int .i64 (t:Int)] w fun e w'=>e=.returned (.bool (decide (nth p f≠nth p t)))∧OwnZ w' B (.slice (some ⟨g,0,none⟩) n c) (joinF p (f:Int) (t:Int))∧Wr (·=g) w w':=by
 have hf2:(f:Int)<n:=qO;have ht2:(t:Int)<n:=qO;obtain ⟨g',hgg,-,hg1,hg2,hgc,hgf⟩:=OwnZ.form1 ho qO
 cases hgg
 have p1:=hgc f qO;have p2:=hgc t qO
 by_cases hpp:nth p f=nth p t
 · have hj:=zakv (p:=p) (a:=(f:Int)) (b:=(t:Int)) (by simpa using hpp)
   have hd:decide (nth p f≠nth p t)=false:=decide_eq_false (by simp [hpp]);rw [hj,hd];rw [hpp] at p1;obtain ⟨x,hx⟩:=qN (nth p t);rw [hx] at p1 p2;have hm1:min x x=x:=Int.min_self x;have hm2:max x x=x:=Int.max_self x;clear hj hd hpp hx hgc hgf hn
   go_enter Tryz.func210,Tryz.ntmps210
   go_wp2_with fail
   go_quiet (fail)
   go_wp2_with fail;go_ret
   exact ⟨rfl,ho.below qBl,Wr.ofBelow qBl⟩
 · have hd:decide (nth p f≠nth p t)=true:=decide_eq_true hpp
   rw [hd];obtain ⟨pf,hpf⟩:=qN (nth p f);obtain ⟨pt,hpt⟩:=qN (nth p t);rw [hpf] at p1 hpp;rw [hpt] at p2 hpp
   have HJ:=Lib.hid (show joinF p (f:Int) (t:Int)=joinU p (max pf pt) (min pf pt) p.length by
    have:=zamp p (f:Int) (t:Int);simp only [Int.toNat_natCast,hpf,hpt] at this
    exact this.symm)
   have hmm:min pf pt≠max pf pt:=qO
   have hmb:(min pf pt == max pf pt)=false:=by simpa using hmm
   have hJ0:=zakk p (max pf pt) (min pf pt)
   have HJN:=Lib.hid (fun r (hr:r<p.length)=>zamq (p:=p) (hi:=max pf pt) (lo:=min pf pt) (k:=r) hr)
   have HJH:=Lib.hid (fun r (hr:r<p.length) (e:nth p r=max pf pt)=>zamr (lo:=min pf pt) hr e)
   have HJM:=Lib.hid (fun r (hr:r<p.length) (e:nth p r≠max pf pt)=>zakl (lo:=min pf pt) hr e)
   have HJL:=Lib.hid (fun r=>zacw p (max pf pt) (min pf pt) r)
   have HPl:=Lib.hid hn;rw [← hJ0] at ho;clear hJ0 hpf hpt hn hgc hgf hd hpp
   go_enter Tryz.func210,Tryz.ntmps210
   go_wp2_with fail
   go_quiet (fail)
   obtain ⟨mx,hmx⟩:=qN (max pf pt);obtain ⟨mn,hmn⟩:=qN (min pf pt);rw [hmx,hmn] at ho HJN HJH HJM HJL HJ hmm hmb ⊢;clear hmx hmn p1 p2;go_wp2_with fail
   go_loopw [34] (fun i w3=>∃ r:Nat,r≤n∧i=.int .i64 r∧OwnZ w3 B (.slice (some ⟨g,0,none⟩) n c) (joinU p mx mn r)∧Wr (·=g) w w3) (fun i _=>n - (intOf i).toNat)
   case atStart=>exact ⟨0,by omega,rfl,ho.below qBl,Wr.ofBelow qBl⟩
   case round =>
    obtain ⟨r,hr,rfl,ho3,hb3⟩:=hrel;clear ho hg2
    by_cases hlt3:r<n
    · have hrp:r<p.length:=by rw [HPl.out];exact hlt3
      obtain ⟨g',hgg,_,hg3,hg4,hgc,hgf⟩:=OwnZ.form1 ho3 (by rw [HJL.out];omega)
      cases hgg
      have p3:=hgc r (by rw [HJL.out];exact hrp);rw [HJN.out r hrp] at p3;have hr3:(r:Int)<n:=qO;have hfr:=hgf r
      by_cases he:nth p r=mx
      · have hn:=HJH.out r hrp he
        have HN:=Lib.hid hn;rw [he] at p3;have ho4:=OwnZ.put ho3 (k:=r) (by rw [HJL.out];exact hrp) mn;clear hn hgc hgf he;go_wp2_with fail;go_roundw
        case rel=>exact ⟨r+1,by omega,by go_num,by rw [HN.out];exact ho4,hb3.setCell (p:=⟨g,r,none⟩) rfl _⟩
        case measure=>simp [intOf];omega
      · have hn:=HJM.out r hrp he
        have HN:=Lib.hid hn;obtain ⟨pr,hpr⟩:=qN (nth p r);rw [hpr] at p3 he
        have he2:(pr == mx)=false:=by simpa using he
        clear hn hgc hgf hpr;go_wp2_with fail;go_roundw
        case rel=>exact ⟨r+1,by omega,by go_num,by rw [HN.out];exact ho3,hb3⟩
        case measure=>simp [intOf];omega
    · obtain rfl:r=n:=by omega
      have hE2:=HJ.out;rw [HPl.out] at hE2;rw [← hE2] at ho3;go_wp2_with fail;go_ret
      exact ⟨rfl,ho3,hb3⟩
theorem zal0 (a:Option Addr) (n c:Nat) (p:List Int) (w:World) (hn:p.length=n) (hn2:n≤1000) (hs:Zs w a p):Calls Tryz.prog 178 #[.slice a n c] w fun e w'=>e=.returned (.int .i64 (partsN p n))∧Below w.heap.size w w':=by
 have HN:=Lib.hid hn
 have HY:=Lib.hid (fun k (h:nth p k=(k:Int))=>zady h)
 have HO:=Lib.hid (fun k (h:nth p k≠(k:Int))=>zafu h)
 have HL:=Lib.hid (zafv p);clear hn
 go_enter Tryz.func178,Tryz.ntmps178
 go_wp2_with fail
 go_loopw [3,8] (fun m i wr=>∃ q:Nat,q≤n∧i=.int .i64 q∧m=.int .i64 (partsN p q)∧Below w.heap.size w wr) (fun _ i _=>n - (intOf i).toNat)
 case atStart=>exact ⟨0,by omega,rfl,rfl,qBl⟩
 case round =>
  obtain ⟨q,hq,rfl,rfl,hb⟩:=hrel
  by_cases hlt:q<n
  · obtain ⟨gb,go,rfl,hgb,e3⟩:=Zs.at (hs.below hb) (k:=q) (by rw [HN.out];exact hlt)
    have hq2:(q:Int)<(n:Int):=qO;have hle:=HL.out q;obtain ⟨m,hm⟩:=qN (partsN p q);rw [hm] at hle ⊢;have HM:=Lib.hid hm
    by_cases e:nth p q=(q:Int)
    · have HR:=Lib.hid (HY.out q e)
      rw [e] at e3;clear e hm;go_wp2_with fail;go_roundw
      case rel=>exact ⟨q+1,by omega,by go_num,by rw [HR.out,HM.out];go_num,hb⟩
      case measure=>simp [intOf];omega
    · have HR:=Lib.hid (HO.out q e)
      obtain ⟨x,hx⟩:=qN (nth p q);rw [hx] at e3 e
      have he2:(x == (q:Int))=false:=by simpa using e
      clear hx hm;go_wp2_with fail;go_roundw
      case rel=>exact ⟨q+1,by omega,by go_num,by rw [HR.out,HM.out],hb⟩
      case measure=>simp [intOf];omega
  · obtain rfl:q=n:=by omega
    go_wp2_with fail;go_ret
    exact ⟨rfl,hb⟩
theorem zamx (a:Option Addr) (c:Nat) (n:Nat) (l:List Lg) (w:World) (hv:svOk ⟨(n:Int),l⟩=true) (hs:Legs w a l):Calls Tryz.prog 179 #[.agg #[.int .i64 (n:Int),.slice a l.length c]] w fun e w'=>∃ g,e=.returned (.slice (some ⟨g,0,none⟩) n n)∧OwnZ w' w.heap.size (.slice (some ⟨g,0,none⟩) n n) (partsOf n l)∧Below w.heap.size w w':=by
 obtain ⟨v1,v2,v3,v4⟩:=svOk_iff.1 hv;simp only at v1 v2 v3 v4
 have i1:=fun w h=>zaab a c (n:Int) l w qO h
 rw [hv] at i1
 have HE:=Lib.hid (fun k (hk:k<l.length)=>zads (zabq v4 hk))
 have HT:=Lib.hid (fun j (hj:j<l.length)=>show partsOf n (l.take (j+1))=joinF (partsOf n (l.take j)) (nth l j).frm (nth l j).to by rw [zabc hj,zad0])
 have HPL:=Lib.hid (fun (E:List Lg)=>zabr n E)
 clear hv v4
 go_enter Tryz.func179,Tryz.ntmps179
 go_wp2_with fail;refine (i1 _ (hs.below qBl)).mono ?_;rintro e w1 ⟨rfl,b1⟩;obtain ⟨X,hX⟩:=qN (w.heap.size);have A1:At w1 X [.int .i64 (n:Int),.slice a l.length c]:=(At.new w #[.int .i64 (n:Int),.slice a l.length c] 25 hX.symm rfl).below b1;have hb:Below w.heap.size w w1:=((Below.refl _ _).alloc (Nat.le_refl _) _).trans (b1.mono qP);rw [hX];clear b1 i1;obtain ⟨y,y0,y1,-⟩:=id A1.facts2;go_wp2_with fail;refine (zah3 n _ qO).mono ?_;rintro e w2 ⟨rfl,o2,b2⟩;obtain ⟨G,hG⟩:=qN (w1.heap.size);rw [hG] at o2 b2 ⊢;have hXG:X<G:=qO;have A2:=A1.belowB b2 hXG;replace hb:=hb.trans (b2.mono (by have:=hb.size;omega));clear y y0 y1 A1 hG b2;obtain ⟨y,y0,y1,-⟩:=id A2.facts2;have hwX:w.heap.size≤X:=qO;go_wp2_with fail;clear y y0 y1;rw [show ownF n=partsOf n (l.take 0) by simp [partsOf]] at o2
 go_loopw [15] (fun i wr=>∃ k:Nat,k≤l.length∧i=.int .i64 k∧OwnZ wr G (.slice (some ⟨G,0,none⟩) n n) (partsOf n (l.take k))∧At wr X [.int .i64 (n:Int),.slice a l.length c]∧Below w.heap.size w wr) (fun i _=>l.length - (intOf i).toNat)
 case atStart=>exact ⟨0,by omega,rfl,o2,A2,hb⟩
 case round =>
  clear o2 A2 hb;obtain ⟨k,hk,rfl,o3,A3,hb⟩:=hrel
  by_cases hlt:k<l.length
  · obtain ⟨b,off,rfl,hbw,e1,e2,e3,e4,e5⟩:=Legs.at (hs.below hb) hlt
    obtain ⟨⟨a0,a1⟩,b0,b1⟩:=HE.out k hlt;have HTk:=Lib.hid (HT.out k hlt);obtain ⟨⟨g1,g2,g3,g4,g5⟩,hg⟩:=qN (nth l k);rw [hg] at e1 e2 e3 e4 e5 a0 a1 b0 b1 HTk;simp only at e1 e2 e3 e4 e5 a0 a1 b0 b1 HTk;clear hg;obtain ⟨f,rfl⟩:∃ f:Nat,g1=(f:Int):=⟨g1.toNat,by omega⟩;obtain ⟨t,rfl⟩:∃ t:Nat,g2=(t:Int):=⟨g2.toNat,by omega⟩;simp only [Int.toNat_natCast] at a1 b1;obtain ⟨p,hp⟩:=qN (partsOf n (l.take k))
    have hpl:p.length=n:=by rw [← hp];exact HPL.out _
    rw [hp] at o3 HTk;have hk2:(k:Int)<(l.length:Int):=qO;clear hp
    have i2:=fun w h=>zahd G G n n p f t w hpl qO qO qO h
    clear hpl;go_wp2_with fail;refine (i2 _ (o3.below qBl)).mono ?_;rintro e w4 ⟨rfl,o4,r4⟩;go_wp2_with fail;go_roundw
    case rel =>
     have hoG:=(o3.lt (k:=G) rfl).2
     exact ⟨k+1,by omega,by go_num,by rw [HTk.out];exact o4,(A3.alloc _).wr r4 (by show X≠G;omega),(hb.alloc hb.size _).trans (r4.below (by have:=hb.size;simp;omega) (fun k hk=>by subst hk;omega))⟩
    case measure=>simp [intOf];omega
  · obtain rfl:k=l.length:=by omega
    rw [List.take_length] at o3;go_wp2_with fail;go_ret
    exact ⟨G,rfl,o3.mono qO,hb⟩
theorem zaev (a:Option Addr) (c:Nat) (st:Int) (l:List Lg) (w:World) (hv:svOk ⟨st,l⟩=true) (hs:Legs w a l):Calls Tryz.prog 149 #[.agg #[.int .i64 st,.slice a l.length c]] w fun e w'=>e=.returned (.int .i64 (partsC ⟨st,l⟩))∧Below w.heap.size w w':=by
 obtain ⟨v1,v2,v3⟩:=st_in hv;simp only at v1 v2 v3
 have HR:Hid (partsC ⟨st,l⟩=(partsN (partsOf st.toNat l) st.toNat:Int)):=by show _=_;unfold partsC;rw [if_pos hv]
 obtain ⟨n,rfl⟩:∃ n:Nat,st=n:=⟨st.toNat,by omega⟩;simp only [Int.toNat_natCast] at HR
 have i1:=fun w h=>zaab a c (n:Int) l w qO h
 rw [hv] at i1
 have i2:=fun w h=>zamx a c n l w hv h
 have hpl:=zabr n l;obtain ⟨p,hp⟩:=qN (partsOf n l);rw [hp] at HR i2 hpl
 have i3:=fun a w h=>zal0 a n n p w hpl qO h
 clear hp hv hpl
 go_enter Tryz.func149,Tryz.ntmps149
 go_wp2_with fail;refine (i1 _ (hs.below qBl)).mono ?_;rintro e w1 ⟨rfl,b1⟩;obtain ⟨X,hX⟩:=qN (w.heap.size);have A1:At w1 X [.int .i64 (n:Int),.slice a l.length c]:=(At.new w #[.int .i64 (n:Int),.slice a l.length c] 25 hX.symm rfl).below b1;have hb:Below w.heap.size w w1:=((Below.refl _ _).alloc (Nat.le_refl _) _).trans (b1.mono qP);rw [hX];clear b1 i1;obtain ⟨y,y0,y1,-⟩:=id A1.facts2;go_wp2_with fail;refine (i2 _ (hs.below hb)).mono ?_;rintro e w2 ⟨g,rfl,o2,b2⟩;go_wp2_with fail;refine (i3 _ _ o2.kr).mono ?_;rintro e w3 ⟨rfl,b3⟩;go_wp2_with fail;go_ret
 exact ⟨by rw [HR.out];rfl,hb.trans ((b2.trans (b3.mono b2.size)).mono hb.size)⟩
theorem zan3 (a:Option Addr) (c:Nat) (st:Int) (l:List Lg) (w:World) (hv:svOk ⟨st,l⟩=true) (hs:Legs w a l):Calls Tryz.prog 115 #[.agg #[.int .i64 st,.slice a l.length c]] w fun e w'=>e=.returned (.int .i64 (loopsF ⟨st,l⟩))∧Below w.heap.size w w':=by
 obtain ⟨v1,v2,v3⟩:=st_in hv;simp only at v1 v2 v3;have hpc:=zahh hv
 have HR:Hid (loopsF ⟨st,l⟩=(l.length:Int) - st+partsC ⟨st,l⟩):=by show _=_;unfold loopsF;rw [if_pos hv]
 have i1:=fun w h=>zaab a c st l w qO h
 rw [hv] at i1
 have i2:=fun w h=>zaev a c st l w hv h
 obtain ⟨m,hm⟩:=qN (partsC ⟨st,l⟩);rw [hm] at HR i2 hpc;clear hm hv;have hw1:IntKind.i64.wrap ((l.length:Int) - st)=(l.length:Int) - st:=IntWalk.i64_in _ qO;have hw2:IntKind.i64.wrap ((l.length:Int) - st+m)=(l.length:Int) - st+m:=IntWalk.i64_in _ qO
 go_enter Tryz.func115,Tryz.ntmps115
 go_wp2_with fail;refine (i1 _ (hs.below qBl)).mono ?_;rintro e w1 ⟨rfl,b1⟩;obtain ⟨X,hX⟩:=qN (w.heap.size);have A1:At w1 X [.int .i64 st,.slice a l.length c]:=(At.new w #[.int .i64 st,.slice a l.length c] 25 hX.symm rfl).below b1;have hb:Below w.heap.size w w1:=((Below.refl _ _).alloc (Nat.le_refl _) _).trans (b1.mono qP);rw [hX];clear b1 i1;obtain ⟨y,y0,y1,-⟩:=id A1.facts2;have hs1:=hs.below hb;go_upto_region 3 with fail
 go_region_held3 (fun w'=>Below w1.heap.size w1 w'∧∀ b o,b<w1.heap.size→w'.cell? ⟨b,o,none⟩=w1.cell? ⟨b,o,none⟩) (exact kept qHb) ((go_at_call 149;refine (i2 _ (hs1.below qHb)).mono ?_;rintro e wy ⟨rfl,c1⟩;have By:=zaae (V:=w1) qHb c1;have zy:=By.size;clear c1))
 all_goals
  go_wp2_with fail;go_ret
  exact ⟨by rw [HR.out];rfl,hb.trans ((by with_reducible assumption:Below w1.heap.size w1 _).mono hb.size)⟩
theorem zaed (a:Option Addr) (c:Nat) (st:Int) (l:List Lg) (w:World) (hv:svOk ⟨st,l⟩=true) (hs:Legs w a l):Calls Tryz.prog 142 #[.agg #[.int .i64 st,.slice a l.length c]] w fun e w'=>e=.returned (.int .i64 (partsC ⟨st,l⟩))∧Below w.heap.size w w':=by
 obtain ⟨v1,v2,v3⟩:=st_in hv;simp only at v1 v2 v3
 have HR:Hid (partsC ⟨st,l⟩=(partsN (partsOf st.toNat l) st.toNat:Int)):=by show _=_;unfold partsC;rw [if_pos hv]
 have hps:partsS ⟨st,l⟩=partsOf st.toNat l:=by simp [partsS,hv]
 obtain ⟨n,rfl⟩:∃ n:Nat,st=n:=⟨st.toNat,by omega⟩;simp only [Int.toNat_natCast] at HR hps
 have i1:=fun w h=>zaaa a c (n:Int) l w qO h
 rw [hv] at i1
 have i2:=fun w h=>zakm a c (n:Int) l w qO h
 have hpl:=zabr n l;rw [hps] at i2;obtain ⟨p,hp⟩:=qN (partsOf n l);rw [hp] at HR i2 hpl;have HP:=Lib.hid hpl
 have HY:=Lib.hid (fun k (h:nth p k=(k:Int))=>zady h)
 have HO:=Lib.hid (fun k (h:nth p k≠(k:Int))=>zafu h)
 have HL:=Lib.hid (zafv p);clear hp hv hpl hps
 go_enter Tryz.func142,Tryz.ntmps142
 go_wp2_with fail;refine (i1 _ (hs.below qBl)).mono ?_;rintro e w1 ⟨rfl,b1⟩;obtain ⟨X,hX⟩:=qN (w.heap.size);have A1:At w1 X [.int .i64 (n:Int),.slice a l.length c]:=(At.new w #[.int .i64 (n:Int),.slice a l.length c] 25 hX.symm rfl).below b1;have hb:Below w.heap.size w w1:=((Below.refl _ _).alloc (Nat.le_refl _) _).trans (b1.mono qP);rw [hX];clear b1 i1;obtain ⟨y,y0,y1,-⟩:=id A1.facts2;go_wp2_with fail;refine (i2 _ (hs.below hb)).mono ?_;rintro e w2 ⟨av,cv,rfl,o2,b2⟩;have hz:=o2.kr;rw [HP.out] at ⊢;replace hb:=hb.trans (b2.mono hb.size);clear o2 b2 y y0 y1 A1;go_wp2_with fail
 go_loopw [3,5] (fun m i wr=>∃ q:Nat,q≤n∧i=.int .i64 q∧m=.int .i64 (partsN p q)∧Below w2.heap.size w2 wr) (fun _ i _=>n - (intOf i).toNat)
 case atStart=>exact ⟨0,by omega,rfl,rfl,qBl⟩
 case round =>
  obtain ⟨q,hq,rfl,rfl,hb2⟩:=hrel
  by_cases hlt:q<n
  · obtain ⟨gb,go,rfl,hgb,e3⟩:=Zs.at (hz.below hb2) (k:=q) (by rw [HP.out];exact hlt)
    have hq2:(q:Int)<(n:Int):=qO;have hle:=HL.out q;obtain ⟨m,hm⟩:=qN (partsN p q);rw [hm] at hle ⊢;have HM:=Lib.hid hm
    by_cases e:nth p q=(q:Int)
    · have HRq:=Lib.hid (HY.out q e)
      rw [e] at e3;clear e hm;go_wp2_with fail;go_roundw
      case rel=>exact ⟨q+1,by omega,by go_num,by rw [HRq.out,HM.out];go_num,hb2⟩
      case measure=>simp [intOf];omega
    · have HRq:=Lib.hid (HO.out q e)
      obtain ⟨x,hx⟩:=qN (nth p q);rw [hx] at e3 e
      have he2:(x == (q:Int))=false:=by simpa using e
      clear hx hm;go_wp2_with fail;go_roundw
      case rel=>exact ⟨q+1,by omega,by go_num,by rw [HRq.out,HM.out],hb2⟩
      case measure=>simp [intOf];omega
  · obtain rfl:q=n:=by omega
    go_wp2_with fail;go_ret
    exact ⟨by rw [HR.out];rfl,hb.trans (hb2.mono hb.size)⟩
theorem zal1 (a:Option Addr) (c:Nat) (st:Int) (l:List Lg) (w:World) (hv:svOk ⟨st,l⟩=true) (hs:Legs w a l):Calls Tryz.prog 110 #[.agg #[.int .i64 st,.slice a l.length c]] w fun e w'=>e=.returned (.int .i64 (loopsF ⟨st,l⟩))∧Below w.heap.size w w':=by
 obtain ⟨v1,v2,v3⟩:=st_in hv;simp only at v1 v2 v3;have hpc:=zahh hv
 have HR:Hid (loopsF ⟨st,l⟩=(l.length:Int) - st+partsC ⟨st,l⟩):=by show _=_;unfold loopsF;rw [if_pos hv]
 have i1:=fun w h=>zaaa a c st l w qO h
 rw [hv] at i1
 have i2:=fun w h=>zaed a c st l w hv h
 obtain ⟨m,hm⟩:=qN (partsC ⟨st,l⟩);rw [hm] at HR i2 hpc;clear hm hv;have hw1:IntKind.i64.wrap ((l.length:Int) - st)=(l.length:Int) - st:=IntWalk.i64_in _ qO;have hw2:IntKind.i64.wrap ((l.length:Int) - st+m)=(l.length:Int) - st+m:=IntWalk.i64_in _ qO
 go_enter Tryz.func110,Tryz.ntmps110
 go_wp2_with fail;refine (i1 _ (hs.below qBl)).mono ?_;rintro e w1 ⟨rfl,b1⟩;obtain ⟨X,hX⟩:=qN (w.heap.size);have A1:At w1 X [.int .i64 st,.slice a l.length c]:=(At.new w #[.int .i64 st,.slice a l.length c] 25 hX.symm rfl).below b1;have hb:Below w.heap.size w w1:=((Below.refl _ _).alloc (Nat.le_refl _) _).trans (b1.mono qP);rw [hX];clear b1 i1;obtain ⟨y,y0,y1,-⟩:=id A1.facts2;have hs1:=hs.below hb;go_upto_region 3 with fail
 go_region_held3 (fun w'=>Below w1.heap.size w1 w'∧∀ b o,b<w1.heap.size→w'.cell? ⟨b,o,none⟩=w1.cell? ⟨b,o,none⟩) (exact kept qHb) ((go_at_call 142;refine (i2 _ (hs1.below qHb)).mono ?_;rintro e wy ⟨rfl,c1⟩;have By:=zaae (V:=w1) qHb c1;have zy:=By.size;clear c1))
 all_goals
  go_wp2_with fail;go_ret
  exact ⟨by rw [HR.out];rfl,hb.trans ((by with_reducible assumption:Below w1.heap.size w1 _).mono hb.size)⟩
set_option maxHeartbeats 2000000
theorem KOwn.blocks {α:Type} {K:Kind α} [Inhabited α] {T:TypeId} {w w':World} {B:Nat} {v:Value} {xs:List α} (h:KOwn K T w B v xs) (hb:∀ k,v.ownBlock=some k→k<w.heap.size→w'.heap[k]?=w.heap[k]?):KOwn K T w' B v xs:=by
 refine ⟨h.1,?_⟩
 rcases h.2 with hn|⟨g,cap,cur,e,hB,hg,r⟩
 · exact .inl hn
 · exact .inr ⟨g,cap,cur,e,hB,(hb g (by rw [e];rfl) (Array.getElem?_eq_some_iff.1 hg).1).trans hg,r⟩
theorem zaoa (a:Option Addr) (c n:Nat) (l:List Lg) (w:World) (hv:svOk ⟨(n:Int),l⟩=true) (hs:Legs w a l):Calls Tryz.prog 222 #[.agg #[.int .i64 (n:Int),.slice a l.length c]] w (ZsOut (useZ (treeF n l)) w):=by
 obtain ⟨v1,v2,v3,v4⟩:=svOk_iff.1 hv;simp only at v1 v2 v3 v4
 have hE:∀ g ∈ l,EdgeIn n g:=by
  have:=zadm hv
  simpa using this
 have i1:=fun w h=>zaab a c (n:Int) l w qO h
 rw [hv] at i1
 have HPL:=Lib.hid (fun k=>show (treeSt n l k).1.length=n by rw [zacv];exact zabr n _)
 have HSK:=Lib.hid (fun k h=>zacr (n:=n) (l:=l) (k:=k) h)
 have HTK:=Lib.hid (fun k h=>zacs (n:=n) (l:=l) (k:=k) h)
 have HLN:=Lib.hid (zac6 n l)
 have HED:=Lib.hid (fun k (hk:k<l.length)=>hE (nth l k) (zaaf hk))
 have hUL:=Lib.hid (fun k=>zadl (treeSt n l k).2)
 have HF:Hid (treeF n l=(treeSt n l l.length).2):=rfl;have H00:Hid ((treeSt n l 0).1=ownF n∧useZ (treeSt n l 0).2=[]):=⟨rfl,rfl⟩;clear hE v4 hv
 go_enter Tryz.func222,Tryz.ntmps222
 go_wp2_with fail;refine (i1 _ (hs.below qBl)).mono ?_;rintro e w1 ⟨rfl,b1⟩;obtain ⟨X,hX⟩:=qN (w.heap.size);have A1:At w1 X [.int .i64 (n:Int),.slice a l.length c]:=(At.new w #[.int .i64 (n:Int),.slice a l.length c] 25 hX.symm rfl).below b1;have hb:Below w.heap.size w w1:=((Below.refl _ _).alloc (Nat.le_refl _) _).trans (b1.mono qP);rw [hX];clear b1 i1;obtain ⟨y,y0,y1,-⟩:=id A1.facts2;go_wp2_with fail;refine (zah3 n _ qO).mono ?_;rintro e w2 ⟨rfl,o2,b2⟩;obtain ⟨G,hG⟩:=qN (w1.heap.size);rw [hG] at o2 b2 ⊢;have hXG:X<G:=qO;have A2:=A1.belowB b2 hXG;replace hb:=hb.trans (b2.mono (by have:=hb.size;omega));clear y y0 y1 A1 hG b2;obtain ⟨y,y0,y1,-⟩:=id A2.facts2;have hwX:w.heap.size≤X:=qO;go_wp2_with fail;clear y y0 y1;rw [← H00.out.1] at o2
 go_loopw [4,16] (fun v i wr=>∃ k:Nat,k≤l.length∧i=.int .i64 k∧OwnZ wr (G+1) v (useZ (treeSt n l k).2)∧OwnZ wr G (.slice (some ⟨G,0,none⟩) n n) (treeSt n l k).1∧At wr X [.int .i64 (n:Int),.slice a l.length c]∧Below w.heap.size w wr) (fun _ i _=>l.length - (intOf i).toNat)
 case atStart=>exact ⟨0,by omega,rfl,by rw [H00.out.2];exact KOwn.nil,o2,A2,hb⟩
 case round =>
  clear o2 A2 hb;obtain ⟨k,hk,rfl,ho,o3,A3,hb⟩:=hrel;obtain ⟨av,cv,rfl⟩:=ho.sl;have hzr:=hb.size;have hGw:=(o3.lt (k:=G) rfl).2
  by_cases hlt:k<l.length
  · obtain ⟨b,off,rfl,hbw,e1,e2,e3,e4,e5⟩:=Legs.at (hs.below hb) hlt
    obtain ⟨⟨a0,a1⟩,b0,b1⟩:=HED.out k hlt;have hsk:=HSK.out k;have htk:=HTK.out k;have hpl:=HPL.out k;have hln:=HLN.out k;rw [← hUL.out k] at hln;obtain ⟨⟨g1,g2,g3,g4,g5⟩,hg⟩:=qN (nth l k);rw [hg] at e1 e2 e3 e4 e5 a0 a1 b0 b1 hsk htk;simp only at e1 e2 e3 e4 e5 a0 a1 b0 b1 hsk htk;clear hg;obtain ⟨f,rfl⟩:∃ f:Nat,g1=(f:Int):=⟨g1.toNat,by omega⟩;obtain ⟨t,rfl⟩:∃ t:Nat,g2=(t:Int):=⟨g2.toNat,by omega⟩;simp only [Int.toNat_natCast] at hsk htk;obtain ⟨us,hus⟩:=qM (treeSt n l k);rw [← hus] at ho o3 hln hsk htk hpl ⊢;clear hus;obtain ⟨p,u2⟩:=us;simp only at ho o3 hln hsk htk hpl ⊢;have hk2:(k:Int)<(l.length:Int):=qO
    have i2:=fun w h=>zahd G G n n p f t w hpl qO qO qO h
    clear hpl;obtain ⟨zs,hzs⟩:=qN (useZ u2);rw [hzs] at ho hln ⊢
    by_cases hpp:nth p f=nth p t
    · have hd:decide (nth p f≠nth p t)=false:=decide_eq_false (by simp [hpp])
      have hjs:joinF p (f:Int) (t:Int)=p:=zakv (by simpa using hpp);have HS:=Lib.hid (hsk hpp);rw [hd,hjs] at i2;clear hsk htk hpp hd hjs;have HZ:=Lib.hid hzs;clear hzs;go_wp2_with fail;refine (i2 _ (o3.below qBl)).mono ?_;rintro e w4 ⟨rfl,o4,r4⟩;go_wp2_with fail;go_roundw
      case rel =>
       refine ⟨k+1,by omega,by go_num,?_,?_,(A3.alloc _).wr r4 (by show X≠G;omega),(hb.alloc hb.size _).trans (r4.below (by simp;omega) (fun k hk=>by subst hk;omega))⟩
       · rw [HS.out,HZ.out];exact (ho.alloc _).wr r4 fun x hx=>by have:=(ho.lt hx).1;omega
       · rw [HS.out];exact o4
      case measure=>simp [intOf];omega
    · have hd:decide (nth p f≠nth p t)=true:=decide_eq_true hpp
      have HS:=Lib.hid (htk hpp);rw [hd] at i2;clear hsk htk hpp hd;have HZ:=Lib.hid hzs;clear hzs;go_wp2_with fail;refine (i2 _ (o3.below qBl)).mono ?_;rintro e w4 ⟨rfl,o4,r4⟩
      have ho4:=(ho.alloc (.cells #[.int .i64 (f:Int),.int .i64 (t:Int),.int .i64 g3,.int .i64 g4,.int .i64 g5] 75)).wr r4 fun x hx=>by have:=(ho.lt hx).1;omega
      have A4:=(A3.alloc (.cells #[.int .i64 (f:Int),.int .i64 (t:Int),.int .i64 g3,.int .i64 g4,.int .i64 g5] 75)).wr r4 (by show X≠G;omega)
      have hb4:Below w.heap.size w w4:=(hb.alloc hb.size _).trans (r4.below (by simp;omega) (fun k hk=>by subst hk;omega))
      have hG4:=(o4.lt (k:=G) rfl).2;clear ho A3 hb r4
      go_wp2_with (at_builtin;refine zaaj intI _ _ rfl rfl (G+1) _ zs [(k:Int)] (some ⟨w4.heap.size,0,none⟩) 1 rfl (ho4.alloc _) rfl (zagi _ _ _) qO qP (by simp;omega) ?_;rintro av5 cv5 w5 o5 - b5 -)
      go_roundw
      case rel =>
       refine ⟨k+1,by omega,by go_num,?_,?_,(A4.alloc _).belowB b5 qO,(hb4.alloc hb4.size _).trans (b5.mono qO)⟩
       · rw [HS.out]
         simp only;rw [zams,HZ.out];rw [List.length_append] at o5
         exact o5
       · rw [HS.out]
         exact (o4.alloc _).blocks fun x hx hxl=>by
          have e:G=x:=by simpa [Value.ownBlock] using hx
          subst e
          exact b5.block _ qO
      case measure=>simp [intOf];omega
  · obtain rfl:k=l.length:=by omega
    rw [← HF.out] at ho ⊢;go_wp2_with fail;go_ret
    exact ⟨av,cv,rfl,ho.mono qO,hb⟩
theorem zaia (a:Option Addr) (c:Nat) (st:Int) (l:List Lg) (s:Stp) (w:World) (hq:s.ix<l.length) (hl:l.length≤1000) (hs:Legs w a l) :
 Calls Tryz.prog 223 #[.agg #[.int .i64 st,.slice a l.length c],.agg #[.int .i64 (s.ix:Int),.bool s.back]] w fun e w'=>e=.returned (.tuple #[.int .i64 (s.beg l),.int .i64 (s.fin l)])∧Below w.heap.size w w':=by
 obtain ⟨q,back⟩:=s;simp only at hq;obtain ⟨b,off,rfl,hbw,e1,e2,e3,e4,e5⟩:=Legs.at hs hq;have hB:(⟨q,back⟩:Stp).beg l=if back then (nth l q).to else (nth l q).frm:=rfl;have hF:(⟨q,back⟩:Stp).fin l=if back then (nth l q).frm else (nth l q).to:=rfl;rw [hB,hF];obtain ⟨⟨g1,g2,g3,g4,g5⟩,hg⟩:=qN (nth l q);rw [hg] at e1 e2 e3 e4 e5 ⊢;simp only at e1 e2 e3 e4 e5 ⊢;clear hg hB hF;have hq2:(q:Int)<(l.length:Int):=qO;have hbz:b≠w.heap.size:=qO
 cases back
 · go_enter Tryz.func223,Tryz.ntmps223
   go_wp2_with fail
   go_quiet (fail)
   go_wp2_with fail;refine bodyPost_ret (v:=.tuple #[.int .i64 g1,.int .i64 g2]) (by simp [results,Tryz.results223,go_sem]) rfl ⟨rfl,qBl⟩
 · go_enter Tryz.func223,Tryz.ntmps223
   go_wp2_with fail
   go_quiet (fail)
   go_wp2_with fail;refine bodyPost_ret (v:=.tuple #[.int .i64 g2,.int .i64 g1]) (by simp [results,Tryz.results223,go_sem]) rfl ⟨rfl,qBl⟩
def revAtS (l:List Stp) (i k:Nat):Option Stp:=if k<l.length then some (if k<i∨l.length≤k+i then nth l (l.length - 1 - k) else nth l k) else none
theorem nth_reverseS (l:List Stp) (k:Nat) (hk:k<l.length):nth l.reverse k=nth l (l.length - 1 - k):=by
 unfold nth
 rw [List.getD_eq_getElem?_getD,List.getD_eq_getElem?_getD,List.getElem?_reverse hk]
set_option maxRecDepth 100000 in
set_option maxHeartbeats 4000000 in
theorem revSteps_any (B:Nat) (a:Option Addr) (c:Nat) (l:List Stp) (w:World) (hl:l.length≤1048576) (ho:OwnS w B (.slice a l.length c) l) :
 Calls Tryz.prog 224 #[.slice a l.length c] w fun e w'=>e=.returned (.tuple #[])∧OwnS w' B (.slice a l.length c) l.reverse∧Wr (fun j=>(Value.slice a l.length c).ownBlock=some j) w w':=by
 by_cases h0:0<l.length
 · obtain ⟨g,cap,e,hBg,hn,hm,hr⟩:=ho.krow h0
   cases e
   clear ho
   have hg:(Value.slice (some ⟨g,0,none⟩) l.length c).ownBlock=some g:=rfl
   go_enter Tryz.func224,Tryz.ntmps224
   go_wp2_with fail
   go_loopw [2,3] (fun s t wr=>∃ i:Nat,2*i≤l.length∧s=.int .i64 i∧t=.int .i64 ((l.length:Int) - 1 - i)∧KRow stpK 193 wr g c (revAtS l i)∧Wr (fun j=>(Value.slice (some ⟨g,0,none⟩) l.length c).ownBlock=some j) w wr) (fun s _ _=>l.length - (intOf s).toNat)
   case atStart=>exact ⟨0,by omega,rfl,by simp,hr.congr (fun k _ x hx=>by
    unfold revAtS at hx
    split at hx
    · rename_i hk;rw [if_neg (by omega)] at hx;rw [if_pos hk];exact hx
    · cases hx),.refl⟩
   case round =>
    obtain ⟨i,hi,rfl,rfl,hr,hw⟩:=hrel
    by_cases hlt:2*i+1<l.length
    · have hic:i<c:=by omega
      obtain ⟨j,hj⟩:∃ j:Nat,(l.length:Int) - 1 - i=(j:Int):=⟨l.length - 1 - i,by omega⟩
      have hjn:j=l.length - 1 - i:=by omega
      have hij:i<j:=by omega
      have hjc:j<c:=by omega
      have hjl:j<l.length:=by omega
      rw [hj]
      have HJ:=Lib.hid hj
      have HJN:=Lib.hid hjn
      have fi:revAtS l i i=some (nth l i):=by unfold revAtS;rw [if_pos (by omega),if_neg (by omega)]
      have fj:revAtS l i j=some (nth l j):=by unfold revAtS;rw [if_pos (by omega),if_neg (by omega)]
      have m0:=hr.at hic fi (r:=0) rfl
      have m1:=hr.at hic fi (r:=1) rfl
      have n0:=hr.at hjc fj (r:=0) rfl
      have n1:=hr.at hjc fj (r:=1) rfl
      simp only [stpK,Nat.add_zero] at m0 m1 n0 n1
      have hfz:=hr.free
      have hij2:(i:Int)<(j:Int):=by omega
      have hl2:(j:Int)<(l.length:Int):=by omega
      have hl3:(i:Int)<(l.length:Int):=by omega
      have p1:=hr.put i [nth l j]
      have p2:=p1.put j [nth l i]
      clear fi fj hj hjn
      go_wp2_with fail
      go_big_region
      go_wp2_with fail
      go_roundw
      case rel =>
       have e1:=HJN.out
       refine ⟨i+1,by omega,by go_num,by congr 1;omega,?_,?_⟩
       · show KRow stpK 193 ((wr.setCells g (i*stpK.sz) (stpK.flat [nth l j])).setCells g (j*stpK.sz) (stpK.flat [nth l i])).drew g c (revAtS l (i+1))
         refine (p2.congr fun k hk x hx=>?_).drew
         unfold revAtS at hx ⊢
         simp only [List.length_cons,List.length_nil]
         by_cases hkl:k<l.length
         · rw [if_pos hkl] at hx
           by_cases e2:k=j
           · subst e2
             rw [if_pos (by omega)] at hx
             rw [if_pos (by omega),← hx]
             have:l.length - 1 - k=i:=by omega
             rw [this];simp [nth]
           · by_cases e3:k=i
             · subst e3
               rw [if_pos (by omega)] at hx
               rw [if_neg (by omega),if_pos (by omega),← hx]
               rw [← e1];simp [nth]
             · rw [if_neg (by omega),if_neg (by omega),if_pos hkl,← hx]
               congr 1
               by_cases e4:k<i∨l.length≤k+i
               · rw [if_pos e4,if_pos (by omega)]
               · rw [if_neg e4,if_neg (by omega)]
         · rw [if_neg hkl] at hx;cases hx
       · exact (Wr.setCells hg [_,_] (j*2) _ (Wr.setCells hg [_,_] (i*2) _ hw)).drew
      case measure=>simp [intOf] <;> omega
    · go_wp2_with fail
      go_end0
      refine ⟨rfl,?_,hw⟩
      have:=hr.own hBg l.reverse (by rw [List.length_reverse];exact hn) hm (fun k hk=>by
       rw [List.length_reverse] at hk
       rw [nth_reverseS l k hk]
       unfold revAtS
       rw [if_pos hk]
       by_cases e4:k<i∨l.length≤k+i
       · rw [if_pos e4]
       · rw [if_neg e4]
         have:l.length - 1 - k=k:=by omega
         rw [this])
      rw [List.length_reverse] at this
      exact this
 · have e:l=[]:=List.eq_nil_of_length_eq_zero (by omega)
   subst e
   go_enter Tryz.func224,Tryz.ntmps224
   go_wp2_with fail
   go_loopw [2,3] (fun s t wr=>s=.int .i64 ((0:Nat):Int)∧t=.int .i64 (-1)∧wr=w) (fun _ _ _=>0)
   case atStart=>exact ⟨rfl,rfl,rfl⟩
   case round =>
    obtain ⟨rfl,rfl,rfl⟩:=hrel
    go_wp2_with fail
    go_end0
    exact ⟨rfl,ho,.refl⟩
end Go.Proofs.YthfoloefkfadlaaGreatDoor
