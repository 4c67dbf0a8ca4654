/- Walks: lists of numbers; spec.l1All, spec.l1Parts. -/
import Derived.Test.YthfoloefkfadlaaGreatDoorK1
import Derived.Test.YthfoloefkfadlaaGreatDoorK7
import Derived.Test.YthfoloefkfadlaaGreatDoorK3
import Derived.Deep.RegionHeld3
import Derived.Deep.DeepCutAuto
set_option linter.unusedSimpArgs false
set_option linter.unusedVariables false
set_option maxRecDepth 100000
namespace Go.Proofs.YthfoloefkfadlaaGreatDoor
open Go Go.RowKit Go.Sort
def intK:Kind Int where
 sz:=1
 cells x:=[.int .i64 x]
 len _:=rfl
 one _ u hu:=by simp only [List.mem_cons,List.not_mem_nil,or_false] at hu;subst hu;rfl
abbrev Zs:=KRd intK
abbrev OwnZ (w:World) (B:Nat) (v:Value) (l:List Int):Prop:=KOwn intK 3 w B v l
theorem zaji:(Tryz.prog.info? 3).map (fun i=>(i.zero,i.size,i.bytes))=some (some (.int .i64 0),1,8):=by kernel_rfl
theorem intI:KInfo Tryz.prog intK 3 150:=by
 obtain ⟨i0,hi,hz0,hz1,hz2⟩:=info_parts zaji
 exact ⟨Tryz.underlying150,⟨i0,_,8,hi,hz0,hz1,hz2,rfl,by omega⟩,by decide⟩
theorem zagi (w:World) (x:Int) (T:TypeId):Zs (w.alloc (.cells #[.int .i64 x] T)) (some ⟨w.heap.size,0,none⟩) [x]:=by
 refine KRd.mk qP fun j u hu=>?_
 rw [Nat.zero_add]
 exact (At.new (X:=w.heap.size) w _ T rfl rfl).c j u (by rw [zaa4,zabi,List.append_nil] at hu;exact hu)
theorem Zs.at {w:World} {a:Option Addr} {xs:List Int} (h:Zs w a xs) {k:Nat} (hk:k<xs.length) :
 ∃ b off,a=some ⟨b,off,none⟩∧b<w.heap.size∧w.cell? ⟨b,off+k,none⟩=some (.int .i64 (nth xs k)):=by
 obtain ⟨b,off,e,hb,h⟩:=Rd.at h hk
 refine ⟨b,off,e,hb,?_⟩
 have:=h k hk 0 _ rfl
 simpa [intK,Kind.lay] using this
theorem zasb (xs:List Int):intK.flat xs=xs.map (Value.int .i64):=by
 induction xs with
 | nil=>rfl
 | cons x l ih=>rw [zaa4,ih];rfl
theorem OwnZ.form1 {w:World} {B:Nat} {a:Option Addr} {n c:Nat} {xs:List Int} (h:OwnZ w B (.slice a n c) xs) (h0:0<xs.length) :
 ∃ g,a=some ⟨g,0,none⟩∧n=xs.length∧B≤g∧g<w.heap.size∧(∀ j,j<xs.length→w.cell? ⟨g,j,none⟩=some (.int .i64 (nth xs j)))∧∀ j,w.frozen? ⟨g,j,none⟩=false:=by
 have hk:=KOwn.krow h h0;obtain ⟨g,cap,e,hB,hn,hc,hr⟩:=hk
 cases e
 refine ⟨g,rfl,rfl,hB,hr.lt,fun j hj=>?_,fun j=>hr.free j⟩
 have:=hr.at (k:=j) (x:=nth xs j) qO (by simp [hj]) (r:=0) (u:=.int .i64 (nth xs j)) rfl
 simpa [intK] using this
theorem OwnZ.put {w:World} {B g n c:Nat} {xs:List Int} (h:OwnZ w B (.slice (some ⟨g,0,none⟩) n c) xs) {k:Nat} (hk:k<xs.length) (x:Int) :
 OwnZ (w.setCell ⟨g,k,none⟩ (.int .i64 x)) B (.slice (some ⟨g,0,none⟩) n c) (xs.set k x):=by
 obtain ⟨g',cap,f,e,hB,hn,hc,hr,hf⟩:=KOwn.row h qO
 cases e
 have hr2:(w.setCell ⟨g,k,none⟩ (.int .i64 x)).rowIs g 3 (c*intK.sz) (fun j=>if j=k then .int .i64 x else f j):=by
  have:=hr.set k (.int .i64 x)
  exact this
 have hlen:(xs.set k x).length=xs.length:=qP
 have:=KOwn.ofRow (K:=intK) (T:=3) (B:=B) (xs:=xs.set k x) hB (by rw [hlen];exact hn) hc hr2 (fun j u hu=>by
  rw [zasb,List.getElem?_map,List.getElem?_set] at hu
  by_cases e:k=j
  · subst e
    rw [if_pos rfl,if_pos hk] at hu
    show (if k=k then Value.int .i64 x else f k)=u
    rw [if_pos rfl]
    simpa using hu
  · rw [if_neg e] at hu
    have e2:¬ j=k:=fun h=>e h.symm
    show (if j=k then Value.int .i64 x else f j)=u
    rw [if_neg e2]
    exact hf j u (by rw [zasb,List.getElem?_map];exact hu))
 rwa [hlen] at this
theorem zamo (k:Nat):ownF (k+1)=ownF k ++ [(k:Int)]:=by simp [ownF,List.range_succ]
theorem zauq (n:Nat) (w:World) (hn:n≤1000) :
 Calls Tryz.prog 193 #[.int .i64 (n:Int)] w fun e w'=>∃ a c,e=.returned (.slice a (ownF n).length c)∧OwnZ w' w.heap.size (.slice a (ownF n).length c) (ownF n)∧Below w.heap.size w w':=by
 go_enter Tryz.func193,Tryz.ntmps193
 go_wp2_with fail
 go_loopw [3,4] (fun v i wr=>∃ k:Nat,k≤n∧i=.int .i64 k∧OwnZ wr w.heap.size v (ownF k)∧Below w.heap.size w wr) (fun _ i _=>n - (intOf i).toNat)
 case atStart=>exact ⟨0,by omega,rfl,KOwn.lit w _ (Nat.le_refl _),qBl⟩
 case round =>
  obtain ⟨k,hk,rfl,ho,hb⟩:=hrel;obtain ⟨av,cv,rfl⟩:=ho.sl;have hz:=hb.size;have hl:=zacu k;have hs:=zamo k
  by_cases hlt:k<n
  · obtain ⟨xs,hx⟩:=qN (ownF k)
    rw [hx] at ho hl hs;have HS:=Lib.hid hs;have hxl:xs.length≤1000:=qO;rw [hx];clear hs hx hl
    go_wp2_with (at_builtin;refine zaaj intI _ _ rfl rfl w.heap.size _ xs [(k:Int)] (some ⟨wr.heap.size,0,none⟩) 1 rfl (ho.alloc _) rfl (zagi _ _ _) qO qP (by simp;omega) ?_;rintro av5 cv5 w5 o5 - b5 -)
    go_roundw
    case rel=>exact ⟨k+1,by omega,by first|rfl|go_num,by rw [HS.out];rw [List.length_append] at o5;exact o5,(hb.alloc hz _).trans b5⟩
    case measure=>simp [intOf];omega
  · obtain rfl:k=n:=by omega
    go_wp2_with fail;go_ret
    exact ⟨av,cv,rfl,ho,hb⟩
set_option maxHeartbeats 4000000
def joinU (p:List Int) (hi lo:Int) (k:Nat):List Int:=((p.take k).map fun x=>if x=hi then lo else x) ++ p.drop k
theorem zakk (p:List Int) (hi lo:Int):joinU p hi lo 0=p:=by simp [joinU]
theorem zacw (p:List Int) (hi lo:Int) (k:Nat):(joinU p hi lo k).length=p.length:=by simp [joinU];omega
theorem zamp (p:List Int) (a b:Int):joinU p (max (nth p a.toNat) (nth p b.toNat)) (min (nth p a.toNat) (nth p b.toNat)) p.length=joinF p a b:=by simp [joinU,joinF]
theorem zamq {p:List Int} {hi lo:Int} {k:Nat} (h:k<p.length):nth (joinU p hi lo k) k=nth p k:=by
 unfold joinU;rw [zaay (by simp;omega)];rw [zaba]
 congr 1
 simp;omega
theorem zamr {p:List Int} {hi lo:Int} {k:Nat} (h:k<p.length) (e:nth p k=hi):joinU p hi lo (k+1)=(joinU p hi lo k).set k lo:=by
 refine zabf (by simp [zacw]) fun j hj=>?_
 rw [zacw] at hj;rw [zaav (by rw [zacw];exact hj)];unfold joinU
 by_cases hjk:j<k
 · rw [if_neg qO,zaam (by simp;omega),zaam (by simp;omega),zab5 (by simp;omega),zab5 (by simp;omega),zabt qO,zabt qO]
 · by_cases hjk2:j=k
   · subst hjk2
     rw [if_pos rfl,zaam (by simp;omega),zab5 (by simp;omega),zabt qO,if_pos e]
   · rw [if_neg qO,zaay (by simp;omega),zaay (by simp;omega),zaba,zaba]
     congr 1
     simp;omega
theorem zakl {p:List Int} {hi lo:Int} {k:Nat} (h:k<p.length) (e:nth p k≠hi):joinU p hi lo (k+1)=joinU p hi lo k:=by
 refine zabf (by simp [zacw]) fun j hj=>?_
 rw [zacw] at hj;unfold joinU
 by_cases hjk:j<k
 · rw [zaam (by simp;omega),zaam (by simp;omega),zab5 (by simp;omega),zab5 (by simp;omega),zabt qO,zabt qO]
 · by_cases hjk2:j=k
   · subst hjk2
     rw [zaam (by simp;omega),zab5 (by simp;omega),zabt qO,if_neg e,zaay (by simp;omega),zaba]
     congr 1
     simp;omega
   · rw [zaay (by simp;omega),zaay (by simp;omega),zaba,zaba]
     congr 1
     simp;omega
def useZ (use:List Nat):List Int:=List.map (fun i:Nat=>(i:Int)) use
theorem zadl (use:List Nat):(useZ use).length=use.length:=by simp [useZ]
theorem zajj {use:List Nat} {k:Nat} (h:k<use.length):nth (useZ use) k=((nth use k:Nat):Int):=by unfold useZ;rw [zab5 h]
theorem zaiv (a ua:Option Addr) (c uc n:Nat) (l:List Lg) (use:List Nat) (w:World) (hn:n≤6) (_hl:l.length≤1000) (hu:use.length≤1000) (hE:∀ i ∈ use,i<l.length∧EdgeIn n (nth l i)) (hs:Legs w a l) (hz:Zs w ua (useZ use)) :
 Calls Tryz.prog 192 #[.agg #[.int .i64 (n:Int),.slice a l.length c],.slice ua use.length uc] w fun e w'=>∃ av cv,e=.returned (.slice av n cv)∧OwnZ w' w.heap.size (.slice av n cv) (partsOf n (legsAt l use))∧Below w.heap.size w w':=by
 have HE:=Lib.hid hE;clear hE
 go_enter Tryz.func192,Tryz.ntmps192
 go_wp2_with fail;obtain ⟨X,hX⟩:=qN (w.heap.size);rw [hX];have hzx:w.heap.size≤X:=qO
 go_loopw [5,6] (fun v i wr=>∃ k:Nat,k≤n∧i=.int .i64 k∧OwnZ wr (X+1) v (ownF k)∧At wr X [.int .i64 (n:Int),.slice a l.length c]∧Below w.heap.size w wr) (fun _ i _=>n - (intOf i).toNat)
 case atStart =>
  refine ⟨0,by omega,rfl,?_,?_,qBl⟩
  · have:=KOwn.lit (K:=intK) (T:=3) (w.alloc (.cells #[.int .i64 (n:Int),.slice a l.length c] 25)) (X+1) (by simp;omega)
    rw [show ownF 0=[] from rfl];rw [← hX] at this ⊢
    simpa using this
  · exact (At.new w #[.int .i64 (n:Int),.slice a l.length c] 25 hX.symm rfl).alloc _
 case round =>
  obtain ⟨k,hk,rfl,ho,A,hb⟩:=hrel;obtain ⟨av,cv,rfl⟩:=ho.sl;rw [zacu];rw [zacu] at ho;obtain ⟨y,y0,y1,yf⟩:=id A.facts2;have hzr:=hb.size;have hbr:X+1≤wr.heap.size:=qO
  by_cases hlt:k<n
  · obtain ⟨xs,hx⟩:=qN (ownF k)
    have hl:=zacu k;have hs2:=zamo k;rw [hx] at ho hl hs2;have HS:=Lib.hid hs2;have HL:=Lib.hid hl;have hxl:xs.length≤1000:=qO;have hki:(k:Int)<(n:Int):=qO;clear hs2 hx hl
    go_wp2_with (at_builtin;refine zaaj intI _ _ rfl rfl (X+1) _ xs [(k:Int)] (some ⟨wr.heap.size,0,none⟩) 1 rfl (ho.alloc _) rfl (zagi _ _ _) qO qP (by simp;omega) ?_;rintro av5 cv5 w5 o5 - b5 -)
    rw [List.length_append] at o5;go_roundw
    case rel=>exact ⟨k+1,by omega,by go_num,by rw [HS.out];exact o5,(A.alloc _).belowB b5 qO,(hb.alloc hzr _).trans (b5.mono qO)⟩
    case measure=>simp [intOf];omega
  · obtain rfl:k=n:=by omega
    have hrelE:∀ i ∈ use,i<l.length∧EdgeIn k (nth l i):=HE.out
    have hP0:partsOf k (legsAt l (use.take 0))=ownF k:=by simp [legsAt,partsOf]
    rw [← hP0] at ho
    have HS0:=Lib.hid (fun (j:Nat) (hj:j<use.length)=>show partsOf k (legsAt l (use.take (j+1)))=joinF (partsOf k (legsAt l (use.take j))) (nth l (nth use j)).frm (nth l (nth use j)).to by
     rw [zabc hj];simp only [legsAt,List.map_append,List.map_cons,List.map_nil];rw [zad0])
    have HPL:=Lib.hid (fun (E:List Lg)=>zabr k E)
    clear hP0 hrelE;go_wp2_with fail;clear y y0 y1 yf
    go_loopw [7] (fun i wr2=>∃ j:Nat,j≤use.length∧i=.int .i64 j∧OwnZ wr2 (X+1) (.slice av k cv) (partsOf k (legsAt l (use.take j)))∧At wr2 X [.int .i64 (k:Int),.slice a l.length c]∧Below w.heap.size w wr2) (fun i _=>use.length - (intOf i).toNat)
    case atStart=>exact ⟨0,by omega,rfl,ho,A,hb⟩
    case round =>
     obtain ⟨j,hj,rfl,ho2,A2,hb2⟩:=hrel;clear ho A hb hzr hbr;obtain ⟨y,y0,y1,yf⟩:=id A2.facts2;have hzr:=hb2.size
     by_cases hlt2:j<use.length
     · obtain ⟨hqi,hqE⟩:=HE.out (nth use j) (zaaf hlt2)
       obtain ⟨ub,uo,rfl,hub,hu1⟩:=Zs.at (hz.below hb2) (by rw [zadl];exact hlt2);rw [zajj hlt2] at hu1;have HSj:=Lib.hid (HS0.out j hlt2);obtain ⟨q,hq⟩:=qN (nth use j);rw [hq] at hu1 hqi hqE HSj;clear hq;obtain ⟨b,off,rfl,hbw,e1,e2,_,_,_⟩:=Legs.at (hs.below hb2) hqi;obtain ⟨⟨a0,a1⟩,b0,b1⟩:=hqE;obtain ⟨f,hf⟩:∃ f:Nat,(nth l q).frm=(f:Int):=⟨(nth l q).frm.toNat,by omega⟩;obtain ⟨t,ht⟩:∃ t:Nat,(nth l q).to=(t:Int):=⟨(nth l q).to.toNat,by omega⟩;rw [hf] at e1 a0 a1 HSj;rw [ht] at e2 b0 b1 HSj;clear hf ht;obtain ⟨p,hp⟩:=qN (partsOf k (legsAt l (use.take j)))
       have hpl:p.length=k:=by rw [← hp];exact HPL.out _
       rw [hp] at ho2 HSj;have HPl:=Lib.hid hpl;clear hp;obtain ⟨g,rfl,_,hg1,hg2,hgc,hgf⟩:=OwnZ.form1 ho2 qO;have p1:=hgc f qO;have p2:=hgc t qO;have hf2:f<k:=qO;have ht2:t<k:=qO;have hq2:(q:Int)<l.length:=qO;have hj2:(j:Int)<use.length:=qO;obtain ⟨pf,hpf⟩:=qN (nth p f);obtain ⟨pt,hpt⟩:=qN (nth p t);rw [hpf] at p1;rw [hpt] at p2
       have HJ:=Lib.hid (show joinF p (f:Int) (t:Int)=joinU p (max pf pt) (min pf pt) p.length by
        have:=zamp p (f:Int) (t:Int);simp only [Int.toNat_natCast,hpf,hpt] at this
        exact this.symm)
       clear hpl hpf hpt hgc hgf;go_wp2_with fail
       go_quiet (fail)
       go_wp2_with fail
       go_quiet (fail)
       go_wp2_with fail;clear p1 p2 e1 e2 hu1;have hJ0:=zakk p (max pf pt) (min pf pt);rw [← hJ0] at ho2
       have HJN:=Lib.hid (fun r (hr:r<p.length)=>zamq (p:=p) (hi:=max pf pt) (lo:=min pf pt) (k:=r) hr)
       have HJH:=Lib.hid (fun r (hr:r<p.length) (e:nth p r=max pf pt)=>zamr (lo:=min pf pt) hr e)
       have HJM:=Lib.hid (fun r (hr:r<p.length) (e:nth p r≠max pf pt)=>zakl (lo:=min pf pt) hr e)
       have HJL:=Lib.hid (fun r=>zacw p (max pf pt) (min pf pt) r)
       clear hJ0;obtain ⟨mx,hmx⟩:=qN (max pf pt);obtain ⟨mn,hmn⟩:=qN (min pf pt);rw [hmx,hmn] at ho2 HJN HJH HJM HJL HJ;have HMX:=Lib.hid hmx;have HMN:=Lib.hid hmn;clear hmx hmn
       go_loopw [10] (fun i w3=>∃ r:Nat,r≤k∧i=.int .i64 r∧OwnZ w3 (X+1) (.slice (some ⟨g,0,none⟩) k cv) (joinU p mx mn r)∧At w3 X [.int .i64 (k:Int),.slice (some ⟨b,off,none⟩) l.length c]∧Below w.heap.size w w3) (fun i _=>k - (intOf i).toNat)
       case atStart=>exact ⟨0,by omega,rfl,ho2.below (below_drewN (below_drewN (Below.refl _ _) _) _),A2.below (below_drewN (below_drewN (Below.refl _ _) _) _),below_drewN (below_drewN hb2 _) _⟩
       case round =>
        obtain ⟨r,hr,rfl,ho3,A3,hb3⟩:=hrel;clear ho2 A2 hb2 hzr hbw hub;obtain ⟨y,y0,y1,yf⟩:=id A3.facts2
        by_cases hlt3:r<k
        · have hrp:r<p.length:=by rw [HPl.out];exact hlt3
          obtain ⟨g',hgg,_,hg3,hg4,hgc,hgf⟩:=OwnZ.form1 ho3 (by rw [HJL.out];omega)
          cases hgg
          have p3:=hgc r (by rw [HJL.out];exact hrp);rw [HJN.out r hrp] at p3;have hr3:(r:Int)<k:=qO;have hgX:g≠X:=qO;have hfr:=hgf r;have hmm:=HMX.out;have hmn:=HMN.out
          by_cases he:nth p r=mx
          · have hn:=HJH.out r hrp he
            have HN:=Lib.hid hn;rw [he] at p3;have ho4:=OwnZ.put ho3 (k:=r) (by rw [HJL.out];exact hrp) mn;clear hn hgc hgf he;go_wp2_with fail;go_roundw
            case rel=>exact ⟨r+1,by omega,by go_num,by rw [HN.out];exact ho4,A3.setOther (by show X≠g;omega) _,hb3.setCell (by show w.heap.size≤g;omega) _⟩
            case measure=>simp [intOf];omega
          · have hn:=HJM.out r hrp he
            have HN:=Lib.hid hn;obtain ⟨pr,hpr⟩:=qN (nth p r);rw [hpr] at p3 he;clear hn hgc hgf hpr;go_wp2_with fail;go_roundw
            case rel=>exact ⟨r+1,by omega,by go_num,by rw [HN.out];exact ho3,A3,hb3⟩
            case measure=>simp [intOf];omega
        · obtain rfl:r=k:=by omega
          have hE2:=HJ.out;rw [HPl.out] at hE2;rw [← hE2] at ho3;go_wp2_with fail;go_roundw
          case rel=>exact ⟨j+1,by omega,by go_num,by rw [HSj.out];exact ho3,A3,hb3⟩
          case measure=>simp [intOf];omega
     · obtain rfl:j=use.length:=by omega
       rw [List.take_length] at ho2;go_wp2_with fail;go_ret
       exact ⟨av,cv,rfl,ho2.mono qO,hb2⟩
def ZsOut (xs:List Int) (w:World) (e:Ending) (w':World):Prop:=∃ av cv,e=.returned (.slice av xs.length cv)∧OwnZ w' w.heap.size (.slice av xs.length cv) xs∧Below w.heap.size w w'
theorem zaxx (l:List Lg):legsAt l (List.range l.length)=l:=by
 unfold legsAt
 refine zabf qP fun k hk=>?_
 simp only [List.length_map,List.length_range] at hk;rw [zab5 (by simpa using hk)]
 simp [nth,hk]
theorem zaur (n:Nat):useZ (List.range n)=ownF n:=rfl
def partsS (s:Sv):List Int:=if svOk s then partsOf s.st.toNat s.legs else []
theorem zakm (a:Option Addr) (c:Nat) (st:Int) (l:List Lg) (w:World) (hl:l.length≤1048576) (hs:Legs w a l):Calls Tryz.prog 157 #[.agg #[.int .i64 st,.slice a l.length c]] w (ZsOut (partsS ⟨st,l⟩) w):=by
 have i1:=fun w h=>zaaa a c st l w hl h
 cases hv:svOk ⟨st,l⟩
 · rw [show partsS ⟨st,l⟩=[] by simp [partsS,hv]]
   rw [hv] at i1
   go_enter Tryz.func157,Tryz.ntmps157
   go_wp2_with (go_at_call 42;refine (i1 _ (hs.below qBl)).mono ?_;rintro e w1 ⟨rfl,b1⟩)
   go_ret;have b2:Below w.heap.size w w1:=((Below.refl _ _).alloc (Nat.le_refl _) _).trans (b1.mono qP)
   exact ⟨_,_,rfl,KOwn.lit w1 _ b2.size,b2.alloc b2.size _⟩
 obtain ⟨v1,v2,v3,v4⟩:=svOk_iff.1 hv;simp only at v1 v2 v3 v4
 have hE:∀ i ∈ List.range l.length,i<l.length∧EdgeIn st.toNat (nth l i):=fun i hi=>⟨List.mem_range.1 hi,zads (zabq v4 (List.mem_range.1 hi))⟩
 rw [show partsS ⟨st,l⟩=partsOf st.toNat (legsAt l (List.range l.length)) by rw [zaxx];simp [partsS,hv]];obtain ⟨n,rfl⟩:∃ n:Nat,st=n:=⟨st.toNat,by omega⟩;simp only [Int.toNat_natCast] at hE ⊢;have i2:=zauq l.length
 have i3:=fun ua uc w hs hz=>zaiv a ua c uc n l (List.range l.length) w qO qO (by simp;omega) hE hs hz
 simp only [List.length_range,zaur,zacu] at i2 i3;have HP:=Lib.hid (zabr n (legsAt l (List.range l.length)));rw [hv] at i1;clear hE v4 hv
 go_enter Tryz.func157,Tryz.ntmps157
 go_wp2_with fail;refine (i1 _ (hs.below qBl)).mono ?_;rintro e w1 ⟨rfl,b1⟩;obtain ⟨X,hX⟩:=qN (w.heap.size);have A1:At w1 X [.int .i64 (n:Int),.slice a l.length c]:=(At.new w #[.int .i64 (n:Int),.slice a l.length c] 25 hX.symm rfl).below b1;have hb:Below w.heap.size w w1:=((Below.refl _ _).alloc (Nat.le_refl _) _).trans (b1.mono qP);rw [hX];clear b1 i1;obtain ⟨y,y0,y1,-⟩:=id A1.facts2;have hs1:=hs.below hb;go_upto_region 3 with fail
 go_cut [2] (fun v wx=>∃ av cv,v=.slice av n cv∧OwnZ wx w1.heap.size (.slice av n cv) (partsOf n (legsAt l (List.range l.length)))∧Below w1.heap.size w1 wx)
 case first =>
  go_region_held3 (fun w'=>Below w1.heap.size w1 w'∧∀ b o,b<w1.heap.size→w'.cell? ⟨b,o,none⟩=w1.cell? ⟨b,o,none⟩) (exact kept qHb)
   (first
   | (go_at_call 193;refine (i2 _ qO).mono ?_;rintro e wy ⟨ay,cy,rfl,oy,c1⟩;have By:=zaae (V:=w1) qHb c1;have zy:=By.size;clear c1)
   | (go_at_call 192;refine (i3 _ _ _ (hs1.below qHb) oy.kr).mono ?_;rintro e wz ⟨az,cz,rfl,oz,c1⟩;have Bz:=zaae (V:=w1) qHb c1;have zz:=Bz.size;clear c1))
  all_goals (go_wp2_with fail;go_meet)
  all_goals exact ⟨_,_,rfl,oz.mono qSo,qHb⟩
 case rest =>
  obtain ⟨av,cv,rfl,ov,bb⟩:=hcut;go_wp2_with fail;go_ret
  exact ⟨av,cv,by rw [HP.out];rfl,by rw [HP.out];exact ov.mono hb.size,hb.trans (bb.mono hb.size)⟩
set_option maxHeartbeats 4000000
def treeS (s:Sv):List Nat:=if svOk s then treeF s.st.toNat s.legs else []
theorem zadm {st:Int} {l:List Lg} (h:svOk ⟨st,l⟩=true):∀ g ∈ l,EdgeIn st.toNat g:=fun g hg=>by
 obtain ⟨_,_,_,h4⟩:=svOk_iff.1 h
 exact zads (List.all_eq_true.1 h4 g hg)
theorem zac7 {n:Nat} {l:List Lg} (hl:∀ g ∈ l,EdgeIn n g) {k:Nat} (hk:k≤l.length):∀ i ∈ (treeSt n l k).2,i<l.length∧EdgeIn n (nth l i):=fun i hi=>by
 have:=zafx n l k i hi
 exact ⟨by omega,hl _ (zaaf qO)⟩
theorem zams (use:List Nat) (k:Nat):useZ (use ++ [k])=useZ use ++ [(k:Int)]:=by simp [useZ]
theorem zao6 (a:Option Addr) (c:Nat) (st:Int) (l:List Lg) (w:World) (hl:l.length≤1048576) (hs:Legs w a l):Calls Tryz.prog 191 #[.agg #[.int .i64 st,.slice a l.length c]] w (ZsOut (useZ (treeS ⟨st,l⟩)) w):=by
 have i1:=fun w h=>zaaa a c st l w hl h
 cases hv:svOk ⟨st,l⟩
 · rw [show treeS ⟨st,l⟩=[] by simp [treeS,hv]]
   rw [hv] at i1
   go_enter Tryz.func191,Tryz.ntmps191
   go_wp2_with fail;obtain ⟨X,hX⟩:=qN (w.heap.size);rw [hX]
   go_loopw [3,4] (fun v i wr=>i=.int .i64 0∧OwnZ wr (X+1) v []∧At wr X [.int .i64 st,.slice a l.length c]∧Below w.heap.size w wr) (fun _ _ _=>0)
   case atStart =>
    refine ⟨rfl,?_,(At.new w #[.int .i64 st,.slice a l.length c] 25 hX.symm rfl).alloc _,qBl⟩
    have:=KOwn.lit (K:=intK) (T:=3) (w.alloc (.cells #[.int .i64 st,.slice a l.length c] 25)) (X+1) (by simp;omega);rw [← hX] at this ⊢
    simpa using this
   case round =>
    obtain ⟨rfl,ho,A,hb⟩:=hrel;obtain ⟨av,cv,rfl⟩:=ho.sl;obtain ⟨y,y0,y1,-⟩:=id A.facts2;have hs1:=hs.below hb
    by_cases h0:(0:Int)<l.length
    · go_wp2_with (go_at_call 42;refine (i1 _ hs1).mono ?_;rintro e w5 ⟨rfl,b5⟩)
      go_ret;have:=hb.size
      exact ⟨av,cv,rfl,(ho.below b5).mono qO,hb.trans (b5.mono hb.size)⟩
    · go_wp2_with fail
      go_ret
      exact ⟨av,cv,rfl,ho.mono qO,hb⟩
 obtain ⟨v1,v2,v3,v4⟩:=svOk_iff.1 hv;simp only at v1 v2 v3 v4;have hE:=zadm hv;rw [show treeS ⟨st,l⟩=(treeSt st.toNat l l.length).2 by simp [treeS,treeF,hv]];obtain ⟨n,rfl⟩:∃ n:Nat,st=n:=⟨st.toNat,by omega⟩;simp only [Int.toNat_natCast] at hE ⊢
 have i3:=fun k (hk:k≤l.length) ua uc w hs hz=>zaiv a ua c uc n l (treeSt n l k).2 w qO qO (by have:=zac6 n l k;omega) (zac7 hE hk) hs hz
 have HT:=Lib.hid (fun k=>zacv n l k)
 have HPL:=Lib.hid (fun k=>zabr n (legsAt l (treeSt n l k).2))
 have HSK:=Lib.hid (fun k h=>zacr (n:=n) (l:=l) (k:=k) h)
 have HTK:=Lib.hid (fun k h=>zacs (n:=n) (l:=l) (k:=k) h)
 have HLN:=Lib.hid (zac6 n l)
 have HED:=Lib.hid (fun k (hk:k<l.length)=>hE (nth l k) (zaaf hk))
 have hUL:=Lib.hid (fun k=>zadl (treeSt n l k).2)
 rw [hv] at i1;clear hE v4 hv
 go_enter Tryz.func191,Tryz.ntmps191
 go_wp2_with fail;obtain ⟨X,hX⟩:=qN (w.heap.size);rw [hX];have hwX:w.heap.size≤X:=qO
 go_loopw [3,4] (fun v i wr=>∃ k:Nat,k≤l.length∧i=.int .i64 k∧OwnZ wr (X+1) v (useZ (treeSt n l k).2)∧At wr X [.int .i64 (n:Int),.slice a l.length c]∧Below w.heap.size w wr) (fun _ i _=>l.length - (intOf i).toNat)
 case atStart =>
  refine ⟨0,by omega,rfl,?_,(At.new w #[.int .i64 (n:Int),.slice a l.length c] 25 hX.symm rfl).alloc _,qBl⟩
  have:=KOwn.lit (K:=intK) (T:=3) (w.alloc (.cells #[.int .i64 (n:Int),.slice a l.length c] 25)) (X+1) (by simp;omega);rw [show useZ (treeSt n l 0).2=[] from rfl];rw [← hX] at this ⊢
  simpa using this
 case round =>
  obtain ⟨k,hk,rfl,ho,A,hb⟩:=hrel;clear hX;obtain ⟨av,cv,rfl⟩:=ho.sl;have hzr:=hb.size;obtain ⟨y,y0,y1,-⟩:=id A.facts2
  by_cases hlt:k<l.length
  · have i3k:=i3 k hk
    have hpl:=HPL.out k;have hsk:=HSK.out k;have htk:=HTK.out k;rw [HT.out k] at hsk htk;have hln:=HLN.out k;rw [← hUL.out k] at i3k hln;obtain ⟨⟨a0,a1⟩,b0,b1⟩:=HED.out k hlt;obtain ⟨p,hp⟩:=qN (partsOf n (legsAt l (treeSt n l k).2));rw [hp] at i3k hpl hsk htk;have HSk:=Lib.hid hsk;have HTk:=Lib.hid htk;have HPl:=Lib.hid hpl;clear hp hsk htk hpl;obtain ⟨us,hus⟩:=qM (treeSt n l k);rw [← hus] at i3k ho hln HSk HTk ⊢;clear hus;obtain ⟨zs,hzs⟩:=qM (useZ us.2);rw [← hzs] at ho hln i3k ⊢;have HZ:=Lib.hid hzs;clear hzs;have hki:(k:Int)<l.length:=qO;have hs1:=hs.below hb
    go_wp2_with (go_at_call 42;refine (i1 _ hs1).mono ?_;rintro e w5 ⟨rfl,b5⟩;have A5:=A.below b5;obtain ⟨q,q0,q1,-⟩:=id A5.facts2)
    replace ho:=ho.below b5;replace hb:=hb.trans (b5.mono hb.size);have h5r:=b5.size;have hs5:=hs.below hb;clear b5 A y y0 y1;refine (i3k _ _ _ hs5 ho.kr).mono ?_;rintro e w6 ⟨pv,pc,rfl,op,b6⟩;replace ho:=ho.below b6;replace A5:=A5.below b6;replace hb:=hb.trans (b6.mono hb.size);have h6r:=b6.size;clear b6 i3k q q0 q1 i1;obtain ⟨q,q0,q1,-⟩:=id A5.facts2;obtain ⟨b,off,rfl,hbw,e1,e2,_,_,_⟩:=Legs.at (hs.below hb) hlt;obtain ⟨f,hf⟩:∃ f:Nat,(nth l k).frm=(f:Int):=⟨(nth l k).frm.toNat,by omega⟩;obtain ⟨t,ht⟩:∃ t:Nat,(nth l k).to=(t:Int):=⟨(nth l k).to.toNat,by omega⟩;rw [hf] at e1 a0 a1 HSk HTk;rw [ht] at e2 b0 b1 HSk HTk;clear hf ht;simp only [Int.toNat_natCast] at HSk HTk;obtain ⟨g,rfl,-,hg1,hg2,hgc,-⟩:=OwnZ.form1 op (by rw [HPl.out];omega);have p1:=hgc f (by rw [HPl.out];omega);have p2:=hgc t (by rw [HPl.out];omega);have hf2:f<n:=qO;have ht2:t<n:=qO;obtain ⟨pf,hpf⟩:=qN (nth p f);obtain ⟨pt,hpt⟩:=qN (nth p t);rw [hpf] at p1 HSk HTk;rw [hpt] at p2 HSk HTk;clear hpf hpt hgc;go_wp2_with fail
    go_quiet (fail)
    by_cases hne:pf=pt
    · have HN:=Lib.hid (HSk.out hne)
      have hne2:¬ pf≠pt:=fun h=>h hne
      subst hne;go_wp2_with fail;go_roundw
      case rel =>
       refine ⟨k+1,by omega,by go_num,?_,A5.below (below_drewN (Below.refl _ _) _),below_drewN hb _⟩
       rw [HN.out,← HZ.out]
       exact ho.below (below_drewN (Below.refl _ _) _)
      case measure=>simp [intOf];omega
    · have HN:=Lib.hid (HTk.out hne)
      have hzl:zs.length≤1048576:=qO;have hX5:X+1≤w6.heap.size:=qO
      go_wp2_with (at_builtin;refine zaaj intI _ _ rfl rfl (X+1) _ zs [(k:Int)] (some ⟨w6.heap.size,0,none⟩) 1 rfl ((ho.below (below_drewN (Below.refl _ _) _)).alloc _) rfl (zagi _ _ _) qO qP (by simp;omega) ?_;rintro av5 cv5 w7 o7 - b7 -)
      rw [List.length_append] at o7;go_roundw
      case rel =>
       refine ⟨k+1,by omega,by go_num,?_,((A5.below (below_drewN (Below.refl _ _) _)).alloc _).belowB b7 qO,((below_drewN hb _).alloc (by simp;omega) _).trans (b7.mono qO)⟩
       rw [HN.out,zams,← HZ.out]
       exact o7
      case measure=>simp [intOf];omega
  · obtain rfl:k=l.length:=by omega
    go_wp2_with fail;go_ret
    exact ⟨av,cv,rfl,ho.mono qO,hb⟩
def stpK:Kind Stp where
 sz:=2
 cells s:=[.int .i64 (s.ix:Int),.bool s.back]
 len _:=rfl
 one _ u hu:=by simp only [List.mem_cons,List.not_mem_nil,or_false] at hu;rcases hu with rfl|rfl <;> rfl
abbrev Stps:=KRd stpK
abbrev OwnS (w:World) (B:Nat) (v:Value) (l:List Stp):Prop:=KOwn stpK 193 w B v l
theorem zasc:(Tryz.prog.info? 193).map (fun i=>(i.zero,i.size,i.bytes))=some (some (.agg #[.int .i64 0,.bool false]),2,16):=by kernel_rfl
theorem stpI:KInfo Tryz.prog stpK 193 165:=by
 obtain ⟨i0,hi,hz0,hz1,hz2⟩:=info_parts zasc
 exact ⟨Tryz.underlying165,⟨i0,_,16,hi,hz0,hz1,hz2,rfl,by omega⟩,by decide⟩
theorem Stps.at {w:World} {a:Option Addr} {xs:List Stp} (h:Stps w a xs) {k:Nat} (hk:k<xs.length) :
 ∃ b off,a=some ⟨b,off,none⟩∧b<w.heap.size∧w.cell? ⟨b,off+k*2,none⟩=some (.int .i64 ((nth xs k).ix:Int))∧w.cell? ⟨b,off+k*2+1,none⟩=some (.bool (nth xs k).back):=by
 obtain ⟨b,off,e,hb,h⟩:=Rd.at h hk;have:=h k hk
 exact ⟨b,off,e,hb,this 0 _ rfl,this 1 _ rfl⟩
theorem OwnS.one (w:World) (B:Nat) (s:Stp) (hB:B≤w.heap.size):OwnS (w.alloc (.cells #[.int .i64 (s.ix:Int),.bool s.back] 193)) B (.slice (some ⟨w.heap.size,0,none⟩) 1 1) [s]:=by
 exact World.ownsRow_lit w #[.int .i64 (s.ix:Int),.bool s.back] 1 hB (by decide) rfl
def FindOut (l:List Lg) (use:List Nat) (but frm tgt:Int) (M:Nat) (w:World) (e:Ending) (w':World):Prop :=
 ∃ (st:List Stp) (ok:Bool) (av:Option Addr) (cv:Nat),e=.returned (.tuple #[.slice av st.length cv,.bool ok])∧OwnS w' w.heap.size (.slice av st.length cv) st∧(ok=true→Wlk l use but frm tgt st)∧(ok=false→st=[]∧∀ st',¬ Wlk l use but frm tgt st')∧st.length≤M∧Below w.heap.size w w'
def NoBy (l:List Lg) (use:List Nat) (but frm tgt:Int) (ok:Stp→Prop):Prop:=∀ (s:Stp) (st:List Stp),ok s→s.beg l=frm→s.fin l≠but→¬ Wlk l use frm (s.fin l) tgt st
theorem zaxy {l:List Lg} {use:List Nat} {but frm tgt:Int} (h:NoBy l use but frm tgt (fun s=>∃ i,i<use.length∧s.ix=nth use i)) (hne:frm≠tgt) (st:List Stp):¬ Wlk l use but frm tgt st:=by
 intro hw
 cases hw with
 | here=>exact hne rfl
 | @go _ _ _ s st' h1 h2 h3 h4 =>
   obtain ⟨i,hi,e⟩:=List.mem_iff_getElem.1 h1
   exact h s st' ⟨i,hi,by rw [zacz hi,e]⟩ h2 h3 h4
theorem zaus {l:List Lg} {use:List Nat} {but frm tgt:Int} {j:Nat} (h:NoBy l use but frm tgt (fun s=>∃ i,i<j∧s.ix=nth use i)) (h1:NoBy l use but frm tgt (fun s=>s.ix=nth use j∧s.back=false)) (h2:NoBy l use but frm tgt (fun s=>s.ix=nth use j∧s.back=true)) :
 NoBy l use but frm tgt (fun s=>∃ i,i<j+1∧s.ix=nth use i):=by
 rintro s st ⟨i,hi,e⟩ hb hf
 by_cases hij:i<j
 · exact h s st ⟨i,hij,e⟩ hb hf
 · have:i=j:=by omega
   subst this
   cases hs:s.back with
   | false=>exact h1 s st ⟨e,hs⟩ hb hf
   | true=>exact h2 s st ⟨e,hs⟩ hb hf
end Go.Proofs.YthfoloefkfadlaaGreatDoor
