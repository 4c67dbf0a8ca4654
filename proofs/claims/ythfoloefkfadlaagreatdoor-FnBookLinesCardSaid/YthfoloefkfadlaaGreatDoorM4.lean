/- Walks: impl.Adjust. -/
import Derived.Test.YthfoloefkfadlaaGreatDoorM3
import Derived.Test.YthfoloefkfadlaaGreatDoorM2
import Derived.Test.YthfoloefkfadlaaGreatDoorM6
import Derived.Test.YthfoloefkfadlaaGreatDoorM0
import Derived.Test.YthfoloefkfadlaaGreatDoorT2
import Derived.Deep.DeepCutAuto
import Derived.Deep.RegionHeld3
set_option linter.unusedSimpArgs false
set_option linter.unusedVariables false
set_option maxHeartbeats 4000000
set_option maxRecDepth 100000
namespace Go.Proofs.YthfoloefkfadlaaGreatDoor
open Go Go.RowKit Go.Sort
def FixOut (s:Sv) (w:World) (e:Ending) (w':World):Prop :=
 ∃ (d:Int) (ns:List Wy) (av:Option Addr) (cv:Nat),e=.returned (.tuple #[.agg #[.int .i64 d,.slice av ns.length cv],.bool (linked s)])∧OwnW w' w.heap.size (.slice av ns.length cv) ns∧(linked s=true→d=treesF s∧ns=fixNums s)∧Below w.heap.size w w'
def fixU (s:Sv) (m q:Nat):List Wy:=⟨0,0,0⟩ :: (List.range m).map fun i=>if i<q then fixW s i else ⟨0,0,0⟩
theorem zajf (s:Sv) (m q:Nat):(fixU s m q).length=m+1:=by simp [fixU]
theorem zaub (s:Sv) (m:Nat):List.replicate (m+1) (⟨0,0,0⟩:Wy)=fixU s m 0:=by
 rw [List.replicate_succ];unfold fixU
 congr 1
 refine zabf qP fun k hk=>?_
 have:k<m:=by simpa using hk
 simp [nth,this]
theorem zav7 {s:Sv} {m q:Nat}:(fixU s m q).set (q+1) (fixW s q)=fixU s m (q+1):=by
 unfold fixU;rw [List.set_cons_succ]
 congr 1
 refine zabf qP fun k hk=>?_
 have hk':k<m:=by simpa using hk
 rw [zaav (by simpa using hk'),zab5 (by simpa using hk'),zab5 (by simpa using hk')]
 have e:nth (List.range m) k=k:=by simp [nth,hk']
 rw [e]
 by_cases e1:q=k
 · subst e1;rw [if_pos rfl,if_pos qO]
 · rw [if_neg e1]
   by_cases e2:k<q
   · rw [if_pos e2,if_pos qO]
   · rw [if_neg e2,if_neg qO]
theorem zav8 (s:Sv) (m:Nat):fixU s m m=⟨0,0,0⟩ :: (List.range m).map (fixW s):=by
 unfold fixU
 congr 1
 exact List.map_congr_left fun i hi=>by rw [if_pos (List.mem_range.1 hi)]
theorem OwnW.form {w:World} {B:Nat} {a:Option Addr} {n c:Nat} {xs:List Wy} (h:OwnW w B (.slice a n c) xs) (h0:0<xs.length) :
 ∃ g,a=some ⟨g,0,none⟩∧n=xs.length∧B≤g∧g<w.heap.size∧(∀ j,j<xs.length→w.cell? ⟨g,j*3,none⟩=some (.int .i64 (nth xs j).e)∧w.cell? ⟨g,j*3+1,none⟩=some (.int .i64 (nth xs j).n)∧w.cell? ⟨g,j*3+2,none⟩=some (.int .i64 (nth xs j).u))∧∀ j,w.frozen? ⟨g,j,none⟩=false:=by
 have hk:=KOwn.krow h h0;obtain ⟨g,cap,e,hB,hn,hc,hr⟩:=hk
 cases e
 refine ⟨g,rfl,rfl,hB,hr.lt,fun j hj=>?_,fun j=>hr.free j⟩
 have hx:(if j<xs.length then some (nth xs j) else none)=some (nth xs j):=if_pos hj
 exact ⟨hr.at (k:=j) (x:=nth xs j) qO (by simp [hj]) (r:=0) (u:=.int .i64 (nth xs j).e) rfl,hr.at (k:=j) (x:=nth xs j) qO (by simp [hj]) (r:=1) (u:=.int .i64 (nth xs j).n) rfl,hr.at (k:=j) (x:=nth xs j) qO (by simp [hj]) (r:=2) (u:=.int .i64 (nth xs j).u) rfl⟩
structure AdjSt (w:World) (X:Nat) (st:Int) (a:Option Addr) (l:List Lg) (c B GE GN GU m:Nat) (FE FN FU:Nat→Int) (wr:World):Prop where
 x:At wr X [.int .i64 st,.slice a l.length c]
 r:At wr (X+1) [.int .i64 0,.slice none 0 0]
 s:Legs wr a l
 e:OwnZ wr B (.slice (some ⟨GE,0,none⟩) m m) (rowF m FE)
 n:OwnZ wr B (.slice (some ⟨GN,0,none⟩) m m) (rowF m FN)
 p:OwnZ wr B (.slice (some ⟨GU,0,none⟩) m m) (rowF m FU)
 u:Below w.heap.size w wr
 wx:w.heap.size≤X
 xb:X+1<B
 be:B≤GE
 bn:B≤GN
 bu:B≤GU
 en:GE≠GN
 eu:GE≠GU
 nu:GN≠GU
 ls:∀ b o,a=some ⟨b,o,none⟩→0<l.length→b<X
section
variable {w wr w2:World} {X:Nat} {st:Int} {a:Option Addr} {l:List Lg} {c B GE GN GU m:Nat} {FE FN FU:Nat→Int}
theorem AdjSt.below (h:AdjSt w X st a l c B GE GN GU m FE FN FU wr) (hb:Below wr.heap.size wr w2):AdjSt w X st a l c B GE GN GU m FE FN FU w2 :=
 { h with x:=h.x.below hb,r:=h.r.below hb,s:=h.s.below hb,e:=h.e.below hb,n:=h.n.below hb,p:=h.p.below hb,u:=h.u.trans (hb.mono h.u.size) }
theorem made3 (w:World) (m:Nat) (hm:m≤1000) {G:Nat} (hG:G=w.heap.size∨G=w.heap.size+1∨G=w.heap.size+1+1) :
 OwnZ (((w.alloc (.cells (madeCells #[.int .i64 0] m) 3)).alloc (.cells (madeCells #[.int .i64 0] m) 3)).alloc (.cells (madeCells #[.int .i64 0] m) 3)) w.heap.size (.slice (some ⟨G,0,none⟩) m m) (rowF m fun _=>0):=by
 have h0:=OwnZ.made w w.heap.size m (Nat.le_refl _) qO;have h1:=OwnZ.made (w.alloc (.cells (madeCells #[.int .i64 0] m) 3)) w.heap.size m qP qO;have h2:=OwnZ.made ((w.alloc (.cells (madeCells #[.int .i64 0] m) 3)).alloc (.cells (madeCells #[.int .i64 0] m) 3)) w.heap.size m (by simp;omega) qO;have e1:(w.alloc (.cells (madeCells #[.int .i64 0] m) 3)).heap.size=w.heap.size+1:=qP;have e2:((w.alloc (.cells (madeCells #[.int .i64 0] m) 3)).alloc (.cells (madeCells #[.int .i64 0] m) 3)).heap.size=w.heap.size+1+1:=qP;rw [zaeo] at h0 h1 h2;rw [e1] at h1;rw [e2] at h2
 rcases hG with rfl|rfl|rfl
 · exact (h0.alloc _).alloc _
 · exact h1.alloc _
 · exact h2
theorem AdjSt.start {w w2:World} {X:Nat} {st:Int} {a:Option Addr} {l:List Lg} {c GE GN GU m:Nat} (hx:At w2 X [.int .i64 st,.slice a l.length c]) (hr:At w2 (X+1) [.int .i64 0,.slice none 0 0]) (hs:Legs w2 a l) (hu:Below w.heap.size w w2) (wx:w.heap.size≤X) (xb:X+1<w2.heap.size)
 (hls:∀ b o,a=some ⟨b,o,none⟩→0<l.length→b<w.heap.size) (hm:m≤1000) (h1:GE=w2.heap.size∨GE=w2.heap.size+1∨GE=w2.heap.size+1+1) (h2:GN=w2.heap.size∨GN=w2.heap.size+1∨GN=w2.heap.size+1+1) (h3:GU=w2.heap.size∨GU=w2.heap.size+1∨GU=w2.heap.size+1+1) (en:GE≠GN) (eu:GE≠GU) (nu:GN≠GU) :
 AdjSt w X st a l c w2.heap.size GE GN GU m (fun _=>0) (fun _=>0) (fun _=>0) (((w2.alloc (.cells (madeCells #[.int .i64 0] m) 3)).alloc (.cells (madeCells #[.int .i64 0] m) 3)).alloc (.cells (madeCells #[.int .i64 0] m) 3)) :=
 { x:=((hx.alloc _).alloc _).alloc _,r:=((hr.alloc _).alloc _).alloc _,s:=hs.below qBl,e:=made3 w2 m hm h1,n:=made3 w2 m hm h2,p:=made3 w2 m hm h3,u:=hu.trans (Below.mono (show Below w2.heap.size w2 _ from qBl) hu.size),wx:=wx,xb:=xb,be:=by omega,bn:=by omega,bu:=by omega,en:=en,eu:=eu,nu:=nu,ls:=fun b o e h0=>Nat.lt_of_lt_of_le (hls b o e h0) wx }
theorem AdjSt.atE (h:AdjSt w X st a l c B GE GN GU m FE FN FU wr) {i:Nat} (hi:i<m):wr.cell? ⟨GE,i,none⟩=some (.int .i64 (FE i))∧wr.frozen? ⟨GE,i,none⟩=false:=by
 obtain ⟨g,hg,-,-,-,hc,hf⟩:=OwnZ.form1 h.e (by rw [zaas];omega)
 cases hg
 have:=hc i (by rw [zaas];exact hi);rw [zab4 _ hi] at this
 exact ⟨this,hf i⟩
theorem AdjSt.atN (h:AdjSt w X st a l c B GE GN GU m FE FN FU wr) {i:Nat} (hi:i<m):wr.cell? ⟨GN,i,none⟩=some (.int .i64 (FN i))∧wr.frozen? ⟨GN,i,none⟩=false:=by
 obtain ⟨g,hg,-,-,-,hc,hf⟩:=OwnZ.form1 h.n (by rw [zaas];omega)
 cases hg
 have:=hc i (by rw [zaas];exact hi);rw [zab4 _ hi] at this
 exact ⟨this,hf i⟩
theorem AdjSt.atU (h:AdjSt w X st a l c B GE GN GU m FE FN FU wr) {i:Nat} (hi:i<m):wr.cell? ⟨GU,i,none⟩=some (.int .i64 (FU i))∧wr.frozen? ⟨GU,i,none⟩=false:=by
 obtain ⟨g,hg,-,-,-,hc,hf⟩:=OwnZ.form1 h.p (by rw [zaas];omega)
 cases hg
 have:=hc i (by rw [zaas];exact hi);rw [zab4 _ hi] at this
 exact ⟨this,hf i⟩
theorem AdjSt.congr {FE' FN' FU':Nat→Int} (h:AdjSt w X st a l c B GE GN GU m FE FN FU wr) (h1:∀ j,j<m→FE' j=FE j) (h2:∀ j,j<m→FN' j=FN j) (h3:∀ j,j<m→FU' j=FU j):AdjSt w X st a l c B GE GN GU m FE' FN' FU' wr :=
 { h with e:=by rw [zaa7 h1];exact h.e,n:=by rw [zaa7 h2];exact h.n,p:=by rw [zaa7 h3];exact h.p }
theorem zagu (hs:Legs wr a l) (hls:∀ b o,a=some ⟨b,o,none⟩→0<l.length→b<X) {G:Nat} (hG:X<G) (j:Nat) (v:Value):Legs (wr.setCell ⟨G,j,none⟩ v) a l:=by
 rcases hs with e|e
 · exact .inl e
 · by_cases h0:0<l.length
   · exact KRd.setCell (.inr e) ⟨G,j,none⟩ _ fun b o e2=>by have:=hls b o e2 h0;show b≠G;omega
   · exact .inl (List.eq_nil_of_length_eq_zero qO)
theorem zae6 {B' G G' n' c':Nat} {xs:List Int} (h:OwnZ wr B' (.slice (some ⟨G,0,none⟩) n' c') xs) (hne:G≠G') (j:Nat) (v:Value):OwnZ (wr.setCell ⟨G',j,none⟩ v) B' (.slice (some ⟨G,0,none⟩) n' c') xs :=
 h.setOther (p:=⟨G',j,none⟩) (fun e=>hne (by simpa [Value.ownBlock] using e)) _
theorem zagv {B' G m:Nat} {F:Nat→Int} (h:OwnZ wr B' (.slice (some ⟨G,0,none⟩) m m) (rowF m F)) {i:Nat} (hi:i<m) (x:Int):OwnZ (wr.setCell ⟨G,i,none⟩ (.int .i64 x)) B' (.slice (some ⟨G,0,none⟩) m m) (rowF m fun j=>if j=i then x else F j):=by
 have:=OwnZ.put h (k:=i) (by rw [zaas];exact hi) x
 rwa [zadn] at this
theorem AdjSt.setE (h:AdjSt w X st a l c B GE GN GU m FE FN FU wr) {i:Nat} (hi:i<m) (x:Int):AdjSt w X st a l c B GE GN GU m (fun j=>if j=i then x else FE j) FN FU (wr.setCell ⟨GE,i,none⟩ (.int .i64 x)) :=
 have:=h.wx;have:=h.xb;have:=h.be
 { h with x:=h.x.setOther (p:=⟨GE,i,none⟩) (by show X≠GE;omega) _,r:=h.r.setOther (p:=⟨GE,i,none⟩) (by show X+1≠GE;omega) _,s:=zagu h.s h.ls qO i _,e:=zagv h.e hi x,n:=zae6 h.n (Ne.symm h.en) i _,p:=zae6 h.p (Ne.symm h.eu) i _,u:=h.u.setCell (p:=⟨GE,i,none⟩) (by show w.heap.size≤GE;omega) _ }
theorem AdjSt.setN (h:AdjSt w X st a l c B GE GN GU m FE FN FU wr) {i:Nat} (hi:i<m) (x:Int):AdjSt w X st a l c B GE GN GU m FE (fun j=>if j=i then x else FN j) FU (wr.setCell ⟨GN,i,none⟩ (.int .i64 x)) :=
 have:=h.wx;have:=h.xb;have:=h.bn
 { h with x:=h.x.setOther (p:=⟨GN,i,none⟩) (by show X≠GN;omega) _,r:=h.r.setOther (p:=⟨GN,i,none⟩) (by show X+1≠GN;omega) _,s:=zagu h.s h.ls qO i _,e:=zae6 h.e h.en i _,n:=zagv h.n hi x,p:=zae6 h.p (Ne.symm h.nu) i _,u:=h.u.setCell (p:=⟨GN,i,none⟩) (by show w.heap.size≤GN;omega) _ }
theorem AdjSt.setU (h:AdjSt w X st a l c B GE GN GU m FE FN FU wr) {i:Nat} (hi:i<m) (x:Int):AdjSt w X st a l c B GE GN GU m FE FN (fun j=>if j=i then x else FU j) (wr.setCell ⟨GU,i,none⟩ (.int .i64 x)) :=
 have:=h.wx;have:=h.xb;have:=h.bu
 { h with x:=h.x.setOther (p:=⟨GU,i,none⟩) (by show X≠GU;omega) _,r:=h.r.setOther (p:=⟨GU,i,none⟩) (by show X+1≠GU;omega) _,s:=zagu h.s h.ls qO i _,e:=zae6 h.e h.eu i _,n:=zae6 h.n h.nu i _,p:=zagv h.p hi x,u:=h.u.setCell (p:=⟨GU,i,none⟩) (by show w.heap.size≤GU;omega) _ }
end
theorem zauc (a:Option Addr) (c:Nat) (st:Int) (l:List Lg) (w:World) (hv:svOk ⟨st,l⟩=true) (hp:partsC ⟨st,l⟩≠1) (hs:Legs w a l):Calls Tryz.prog 119 #[.agg #[.int .i64 st,.slice a l.length c]] w (FixOut ⟨st,l⟩ w):=by
 obtain ⟨v1,v2,v3⟩:=st_in hv;simp only at v1 v2 v3
 have i1:=fun w h=>zaab a c st l w qO h
 rw [hv] at i1
 have i2:=fun w h=>zaev a c st l w hv h
 have hL:linked ⟨st,l⟩=false:=by simp [linked,hp]
 have hp2:(partsC ⟨st,l⟩ != 1)=true:=by simpa using hp
 obtain ⟨p,hpe⟩:=qN (partsC ⟨st,l⟩);rw [hpe] at i2 hp hp2;unfold FixOut;rw [hL];clear hpe hL hv
 go_enter Tryz.func119,Tryz.ntmps119
 go_wp2_with fail;refine (i1 _ (hs.below qBl)).mono ?_;rintro e w1 ⟨rfl,b1⟩;obtain ⟨X,hX⟩:=qN (w.heap.size);have F1:At w1 X [.int .i64 st,.slice a l.length c]:=((At.new _ #[.int .i64 st,.slice a l.length c] 25 hX.symm rfl).alloc _).below b1;have R1:At w1 (X+1) [.int .i64 0,.slice none 0 0]:=(At.new _ #[.int .i64 0,.slice none 0 0] 129 (by simp [hX]) rfl).below b1;have hb:Below w.heap.size w w1:=Below.trans qBl (b1.mono (by simp;omega));rw [hX];clear b1;obtain ⟨y,y0,y1,-⟩:=id F1.facts2;go_wp2_with fail;refine (i2 _ (hs.below hb)).mono ?_;rintro e w2 ⟨rfl,b2⟩;have R2:=R1.below b2;replace hb:=hb.trans (b2.mono hb.size);clear b2 y y0 y1 F1 R1;obtain ⟨r,r0,r1,rf⟩:=id R2.facts2;go_wp2_with fail;refine bodyPost_ret (v:=.tuple #[.agg #[.int .i64 0,.slice none 0 0],.bool false]) (by simp [results,Tryz.results119,go_sem,r,r0,r1]) rfl ?_
 exact ⟨0,[],none,0,rfl,KOwn.nil,(fun h=>by cases h),(hb.setCell (p:=⟨X+1,0,none⟩) (by show w.heap.size≤X+1;omega) _).setCell (p:=⟨X+1,1,none⟩) (by show w.heap.size≤X+1;omega) _⟩
theorem zasv (a:Option Addr) (c:Nat) (st:Int) (l:List Lg) (w:World) (hv:svOk ⟨st,l⟩=true) (hp:partsC ⟨st,l⟩=1) (hs:Legs w a l):Calls Tryz.prog 119 #[.agg #[.int .i64 st,.slice a l.length c]] w (FixOut ⟨st,l⟩ w):=by
 obtain ⟨v1,v2,v3⟩:=st_in hv;simp only at v1 v2 v3
 have i1:=fun w h=>zaab a c st l w qO h
 rw [hv] at i1
 have i2:=fun w h=>zaev a c st l w hv h
 have hL:linked ⟨st,l⟩=true:=by simp [linked,hp,hv]
 have HLK:=Lib.hid hL;have hTP:=zamc hL
 have HTF:Hid (treesF ⟨st,l⟩=detL (linkM l (st.toNat - 1))):=by show _=_;unfold treesF;rw [if_pos hv]
 have hMV:=zagn hv;simp only at hMV
 have i3:=fun w h=>zamh a c st l w hv h
 have HIN:=Lib.hid (fun k (hk:k<l.length)=>zafc hv hk)
 have HPU:=Lib.hid (fun k (hk:k<l.length)=>zabj hv _ (zaaf hk))
 have hpl:∀ f:Lg→Int,(f=Lg.east∨f=Lg.north∨f=Lg.up)→∀ x ∈ pullL f l (st.toNat - 1),-999≤x∧x≤999:=fun f hf x hx=>by
  have h1:=zajh (f:=f) v3 (fun g hg=>by
   have h3:=(zacb hv g hg).2;have h4:=zabj hv g hg
   rcases hf with rfl|rfl|rfl
   · exact ⟨h3,h4.1⟩
   · exact ⟨h3,h4.2.1⟩
   · exact ⟨h3,h4.2.2⟩) x hx
  omega
 have i4:=fun (f:Lg→Int) hf a ra c rc w h1 h2=>zaua a ra c rc (linkM l (st.toNat - 1)) (pullL f l (st.toNat - 1)) w hMV (by rw [zafw,zaar]) (hpl f hf) (by rw [← HTF.out];omega) h1 h2
 simp only [zaar] at i4;rw [← HTF.out] at i4;have HFN:Hid (fixNums ⟨st,l⟩=⟨0,0,0⟩ :: (List.range (st.toNat - 1)).map (fixW ⟨st,l⟩)):=rfl
 have HFW:=Lib.hid (fun i=>show fixW ⟨st,l⟩ i=⟨nth (solveL (linkM l (st.toNat - 1)) (pullL Lg.east l (st.toNat - 1))) i,nth (solveL (linkM l (st.toNat - 1)) (pullL Lg.north l (st.toNat - 1))) i,nth (solveL (linkM l (st.toNat - 1)) (pullL Lg.up l (st.toNat - 1))) i⟩ from rfl)
 have HSL:=Lib.hid (fun f=>show (solveL (linkM l (st.toNat - 1)) (pullL f l (st.toNat - 1))).length=st.toNat - 1 by rw [zadz,zaar])
 have HBD:=Lib.hid (fun (f:Lg→Int) (hf:f=Lg.east∨f=Lg.north∨f=Lg.up) (k:Nat) (b:Int)=>show -891≤pullN f (l.take k) b∧pullN f (l.take k) b≤891 by
  have h:=zaek (f:=f) (l:=l.take k) b (fun g hg=>by
   have hg:=List.mem_of_mem_take hg;have h3:=(zacb hv g hg).2;have h4:=zabj hv g hg
   rcases hf with rfl|rfl|rfl
   · exact ⟨h3,h4.1⟩
   · exact ⟨h3,h4.2.1⟩
   · exact ⟨h3,h4.2.2⟩)
  have h5:(l.take k).length≤9:=by simp only [List.length_take];omega
  omega)
 unfold FixOut;rw [hL];obtain ⟨m,hm⟩:=qN (st.toNat - 1);rw [hm] at HIN i3 i4 HFN HFW HSL;have hst1:st=(m:Int)+1:=qO
 have hst:IntKind.i64.wrap (st - 1)=(m:Int):=by rw [show st - 1=(m:Int) by omega];exact IntWalk.i64_in _ qO
 have hm5:m≤5:=qO;have HST:=Lib.hid hst1;have HLL:=Lib.hid v3
 have mi:=fun W=>zacm m qO W
 have nn:(0:Int)≤(m:Int):=qO
 have MK:Hid (∀ W,(Instr.makeSlice 127 (.int .i64 st) (.int .i64 st)).run Tryz.prog W=.ok (.slice (some ⟨W.heap.size,0,none⟩) (m+1) (m+1)) (W.alloc (.cells (madeCells #[.int .i64 0,.int .i64 0,.int .i64 0] ((m+1)*3)) 109))):=fun W=>by
  have h:=zaj9 (m+1) qO W
  rwa [show ((m+1:Nat):Int)=st by omega] at h
 rw [hp] at i2
 have hls:∀ b o,a=some ⟨b,o,none⟩→0<l.length→b<w.heap.size:=fun b o e h0=>by rw [e] at hs;exact hs.lt h0
 obtain ⟨d,hd⟩:=qN (treesF ⟨st,l⟩);obtain ⟨M,hM⟩:=qN (linkM l m);rw [hd] at i4 ⊢
 have HML:Hid (M.length=m):=by show _=_;rw [← hM,zaar]
 rw [hM] at i3 i4 HFW HSL;have I4:=Lib.hid i4;have I3:=Lib.hid i3;have MI:=Lib.hid mi;clear hd hM hpl hMV hTP HTF hL hv hp hm i4 i3 mi hst1
 go_enter Tryz.func119,Tryz.ntmps119
 go_wp2_with fail;refine (i1 _ (hs.below qBl)).mono ?_;rintro e w1 ⟨rfl,b1⟩;obtain ⟨X,hX⟩:=qN (w.heap.size);have F1:At w1 X [.int .i64 st,.slice a l.length c]:=((At.new _ #[.int .i64 st,.slice a l.length c] 25 hX.symm rfl).alloc _).below b1;have R1:At w1 (X+1) [.int .i64 0,.slice none 0 0]:=(At.new _ #[.int .i64 0,.slice none 0 0] 129 (by simp [hX]) rfl).below b1;have hb:Below w.heap.size w w1:=Below.trans qBl (b1.mono (by simp;omega));have hX1:X+1<w1.heap.size:=R1.lt;rw [hX];clear b1;obtain ⟨y,y0,y1,-⟩:=id F1.facts2;go_wp2_with fail;refine (i2 _ (hs.below hb)).mono ?_;rintro e w2 ⟨rfl,b2⟩;have F2:=F1.below b2;have R2:=R1.below b2;have hX2:X+1<w2.heap.size:=R2.lt;replace hb:=hb.trans (b2.mono hb.size);clear b2 y y0 y1 F1 R1 i1 i2;obtain ⟨y,y0,y1,-⟩:=id F2.facts2;obtain ⟨r,r0,r1,rf⟩:=id R2.facts2;go_upto_region 4 with fail;have mi:=MI.out
 have mixed:Tryz.prog.follows Departure.mixedOrders=true:=by kernel_rfl
 go_cut [5,6,7] (fun v5 v6 v7 wx=>∃ GE GN GU,v5=.slice (some ⟨GE,0,none⟩) m m∧v6=.slice (some ⟨GN,0,none⟩) m m∧v7=.slice (some ⟨GU,0,none⟩) m m∧AdjSt w X st a l c w2.heap.size GE GN GU m (fun _=>0) (fun _=>0) (fun _=>0) wx)
 case first =>
  go_region_o
  all_goals (go_wp2_with fail;go_meet)
  all_goals exact ⟨_,_,_,rfl,rfl,rfl,(AdjSt.start F2 R2 (hs.below hb) hb qO hX2 hls qO qO qO qO qO qO qO).below qBl⟩
 case rest =>
  obtain ⟨GE,GN,GU,rfl,rfl,rfl,H⟩:=hcut;clear y y0 y1 r r0 r1 rf F2 R2 hb mi;obtain ⟨y,y0,y1,-⟩:=id H.x.facts2;obtain ⟨B,hB⟩:=qN (w2.heap.size);rw [hB] at H;clear hB hX2;go_wp2_with fail;clear y y0 y1
  go_loopw [40] (fun i wr=>∃ k:Nat,k≤l.length∧i=.int .i64 k∧AdjSt w X st a l c B GE GN GU m (fun j:Nat=>pullN Lg.east (l.take k) ((j:Int)+1)) (fun j:Nat=>pullN Lg.north (l.take k) ((j:Int)+1)) (fun j:Nat=>pullN Lg.up (l.take k) ((j:Int)+1)) wr) (fun i _=>l.length - (intOf i).toNat)
  case atStart=>exact ⟨0,by omega,rfl,H⟩
  case round =>
   clear H;obtain ⟨k,hk,rfl,H⟩:=hrel
   by_cases hlt:k<l.length
   · obtain ⟨b,off,ea,hbw,e1,e2,e3,e4,e5⟩:=Legs.at H.s hlt
     obtain ⟨y,y0,y1,-⟩:=id H.x.facts2;subst ea;obtain ⟨h1,h2,h3⟩:=HIN.out k hlt;obtain ⟨q1,q2,q3⟩:=HPU.out k hlt
     have HTE:=Lib.hid (fun b=>zae0 (f:=Lg.east) hlt b)
     have HTN:=Lib.hid (fun b=>zae0 (f:=Lg.north) hlt b)
     have HTU:=Lib.hid (fun b=>zae0 (f:=Lg.up) hlt b)
     have hbE:=fun j:Nat=>HBD.out Lg.east (.inl rfl) k ((j:Int)+1)
     have hbN:=fun j:Nat=>HBD.out Lg.north (.inr (.inl rfl)) k ((j:Int)+1)
     have hbU:=fun j:Nat=>HBD.out Lg.up (.inr (.inr rfl)) k ((j:Int)+1)
     obtain ⟨⟨g1,g2,g3,g4,g5⟩,hg⟩:=qN (nth l k);rw [hg] at e1 e2 e3 e4 e5 h1 h2 h3 q1 q2 q3 HTE HTN HTU;simp only at e1 e2 e3 e4 e5 h1 h2 h3 q1 q2 q3;clear hg
     have hFE':∃ F:Nat→Int,∀ j,F j=pullN Lg.east (l.take k) ((j:Int)+1):=⟨fun j=>_,fun j=>rfl⟩
     have hFN':∃ F:Nat→Int,∀ j,F j=pullN Lg.north (l.take k) ((j:Int)+1):=⟨fun j=>_,fun j=>rfl⟩
     have hFU':∃ F:Nat→Int,∀ j,F j=pullN Lg.up (l.take k) ((j:Int)+1):=⟨fun j=>_,fun j=>rfl⟩
     obtain ⟨FE,hFE⟩:=hFE';obtain ⟨FN,hFN⟩:=hFN';obtain ⟨FU,hFU⟩:=hFU'
     replace H:=H.congr (FE':=FE) (FN':=FN) (FU':=FU) (fun j _=>hFE j) (fun j _=>hFN j) (fun j _=>hFU j)
     simp only [← hFE] at hbE;simp only [← hFN] at hbN;simp only [← hFU] at hbU;have HFE:=Lib.hid hFE;have HFN':=Lib.hid hFN;have HFU:=Lib.hid hFU;clear hFE hFN hFU;have HFN2:=HFN';have hk2:(k:Int)<(l.length:Int):=qO
     have hk9:(k:Int)≤9:=by have:=HLL.out;omega
     obtain ⟨Z,hZ⟩:=qN (wr.heap.size);have hZB:Z≠GE∧Z≠GN∧Z≠GU∧X+1<Z:=⟨by have:=(H.e.lt (k:=GE) rfl).2;omega,by have:=(H.n.lt (k:=GN) rfl).2;omega,by have:=(H.p.lt (k:=GU) rfl).2;omega,by have:=H.r.lt;omega⟩
     by_cases hto:g2=0
     · have hfr:g1≠0:=by omega
       as_aux_lemma =>
        have hg2:¬ (0:Int)<g2:=qO;have hg2b:decide ((0:Int)<g2)=false:=decide_eq_false hg2;have HZ:=Lib.hid hto;obtain ⟨y,hy⟩:∃ y:Nat,g1=(y:Int)+1:=⟨(g1 - 1).toNat,by omega⟩;have hym:y<m:=qO
        have hyi:IntKind.i64.wrap (g1 - 1)=(y:Int):=by rw [hy,show (y:Int)+1 - 1=y by omega];exact IntWalk.i64_in _ qO
        have hym2:(y:Int)<(m:Int):=qO;have hg1:(0:Int)<g1:=qO;have hg1b:decide ((0:Int)<g1)=true:=decide_eq_true hg1;have HY:=Lib.hid hy;clear hy h1 h2 h3 hto hfr;go_upto_region 13 with fail
        try rw [hZ]
        have Z0:At (wr.alloc (.cells #[.int .i64 g1,.int .i64 g2,.int .i64 g3,.int .i64 g4,.int .i64 g5] 75)) Z [.int .i64 g1,.int .i64 g2,.int .i64 g3,.int .i64 g4,.int .i64 g5]:=At.new _ _ _ hZ.symm rfl;have H0:=H.below (w2:=wr.alloc (.cells #[.int .i64 g1,.int .i64 g2,.int .i64 g3,.int .i64 g4,.int .i64 g5] 75)) qBl;generalize wr.alloc (.cells #[.int .i64 g1,.int .i64 g2,.int .i64 g3,.int .i64 g4,.int .i64 g5] 75)=w3 at *;replace H:=H0;clear H0 e1 e2 e3 e4 e5 hbw hZ;have Z1:=Z0;clear Z0;obtain ⟨oz,oz0,oz1,oz2,oz3,oz4,ozf⟩:=id Z1.facts5;obtain ⟨c1,f1⟩:=H.atE (i:=y) hym;obtain ⟨x,hx⟩:=qN (FE y);rw [hx] at c1;have hxb:=hbE y;rw [hx] at hxb;have hwx:IntKind.i64.wrap (x - g3)=x - g3:=IntWalk.i64_in _ qO;have hn1:Z≠GE:=qO;have hn2:GE≠Z:=Ne.symm hn1;have HX4:=Lib.hid hx;clear hx;go_upto_region 13 with fail
        go_region_o
        replace H:=(H.setE (i:=y) hym (x - g3)).below ((Below.refl _ _).drew);replace Z1:=(Z1.setOther (p:=⟨GE,y,none⟩) hn1 (.int .i64 (x - g3))).drew;generalize (w3.setCell ⟨GE,y,none⟩ (.int .i64 (x - g3))).drew=w4 at *;clear oz oz0 oz1 oz2 oz3 oz4 ozf c1 f1 hn1 hn2 hwx w3;obtain ⟨w3,hw3⟩:=qM (w4);subst hw3;obtain ⟨x4,rfl⟩:=qM (x)
        as_aux_lemma =>
         obtain ⟨oz,oz0,oz1,oz2,oz3,oz4,ozf⟩:=id Z1.facts5;obtain ⟨c1,f1⟩:=H.atN (i:=y) hym;obtain ⟨x,hx⟩:=qN (FN y);rw [hx] at c1;have hxb:=hbN y;rw [hx] at hxb;have hwx:IntKind.i64.wrap (x - g4)=x - g4:=IntWalk.i64_in _ qO;have hn1:Z≠GN:=qO;have hn2:GN≠Z:=Ne.symm hn1;have HX5:=Lib.hid hx;clear hx;go_upto_region 14 with fail
         go_region_o
         replace H:=(H.setN (i:=y) hym (x - g4)).below ((Below.refl _ _).drew);replace Z1:=(Z1.setOther (p:=⟨GN,y,none⟩) hn1 (.int .i64 (x - g4))).drew;generalize (w3.setCell ⟨GN,y,none⟩ (.int .i64 (x - g4))).drew=w4 at *;clear oz oz0 oz1 oz2 oz3 oz4 ozf c1 f1 hn1 hn2 hwx w3;obtain ⟨w3,hw3⟩:=qM (w4);subst hw3;obtain ⟨x5,rfl⟩:=qM (x)
         as_aux_lemma =>
          obtain ⟨oz,oz0,oz1,oz2,oz3,oz4,ozf⟩:=id Z1.facts5;obtain ⟨c1,f1⟩:=H.atU (i:=y) hym;obtain ⟨x,hx⟩:=qN (FU y);rw [hx] at c1;have hxb:=hbU y;rw [hx] at hxb;have hwx:IntKind.i64.wrap (x - g5)=x - g5:=IntWalk.i64_in _ qO;have hn1:Z≠GU:=qO;have hn2:GU≠Z:=Ne.symm hn1;have HX6:=Lib.hid hx;clear hx;go_upto_region 15 with fail
          go_region_o
          replace H:=(H.setU (i:=y) hym (x - g5)).below ((Below.refl _ _).drew);replace Z1:=(Z1.setOther (p:=⟨GU,y,none⟩) hn1 (.int .i64 (x - g5))).drew;generalize (w3.setCell ⟨GU,y,none⟩ (.int .i64 (x - g5))).drew=w4 at *;clear oz oz0 oz1 oz2 oz3 oz4 ozf c1 f1 hn1 hn2 hwx w3;obtain ⟨w3,hw3⟩:=qM (w4);subst hw3;obtain ⟨x6,rfl⟩:=qM (x)
          as_aux_lemma =>
           obtain ⟨oz,oz0,oz1,oz2,oz3,oz4,ozf⟩:=id Z1.facts5;go_wp2_with fail;go_roundw
           case rel =>
            have hwk:k+1≤l.length:=qO;clear hZB
            refine ⟨k+1,hwk,by go_num,H.congr (fun j hj=>?_) (fun j hj=>?_) (fun j hj=>?_)⟩
            · rw [HTE.out]
              have q0:=HFE.out j;have qz:=HZ.out;have qy:=HY.out;have p2:=HX4.out;unfold pullC;simp only
              by_cases ey:j=y
              · subst ey;rw [if_pos rfl,if_neg qO,if_pos qO];omega
              · rw [if_neg ey,if_neg qO,if_neg qO];omega
            · rw [HTN.out]
              have q0:=HFN2.out j;have qz:=HZ.out;have qy:=HY.out;have p2:=HX5.out;unfold pullC;simp only
              by_cases ey:j=y
              · subst ey;rw [if_pos rfl,if_neg qO,if_pos qO];omega
              · rw [if_neg ey,if_neg qO,if_neg qO];omega
            · rw [HTU.out]
              have q0:=HFU.out j;have qz:=HZ.out;have qy:=HY.out;have p2:=HX6.out;unfold pullC;simp only
              by_cases ey:j=y
              · subst ey;rw [if_pos rfl,if_neg qO,if_pos qO];omega
              · rw [if_neg ey,if_neg qO,if_neg qO];omega
           case measure=>exact zaa3 hlt
     · by_cases hfr:g1=0
       · as_aux_lemma =>
          obtain ⟨z,hz⟩:∃ z:Nat,g2=(z:Int)+1:=⟨(g2 - 1).toNat,by omega⟩;have hzm:z<m:=qO
          have hzi:IntKind.i64.wrap (g2 - 1)=(z:Int):=by rw [hz,show (z:Int)+1 - 1=z by omega];exact IntWalk.i64_in _ qO
          have hzm2:(z:Int)<(m:Int):=qO;have hg2:(0:Int)<g2:=qO;have hg2b:decide ((0:Int)<g2)=true:=decide_eq_true hg2;have HZ:=Lib.hid hz;have hg1:¬ (0:Int)<g1:=qO;have hg1b:decide ((0:Int)<g1)=false:=decide_eq_false hg1;have HY:=Lib.hid hfr;clear hz h1 h2 h3 hto hfr;go_upto_region 9 with fail
          try rw [hZ]
          have Z0:At (wr.alloc (.cells #[.int .i64 g1,.int .i64 g2,.int .i64 g3,.int .i64 g4,.int .i64 g5] 75)) Z [.int .i64 g1,.int .i64 g2,.int .i64 g3,.int .i64 g4,.int .i64 g5]:=At.new _ _ _ hZ.symm rfl;have H0:=H.below (w2:=wr.alloc (.cells #[.int .i64 g1,.int .i64 g2,.int .i64 g3,.int .i64 g4,.int .i64 g5] 75)) qBl;generalize wr.alloc (.cells #[.int .i64 g1,.int .i64 g2,.int .i64 g3,.int .i64 g4,.int .i64 g5] 75)=w3 at *;replace H:=H0;clear H0 e1 e2 e3 e4 e5 hbw hZ;have Z1:=Z0;clear Z0;obtain ⟨oz,oz0,oz1,oz2,oz3,oz4,ozf⟩:=id Z1.facts5;obtain ⟨c1,f1⟩:=H.atE (i:=z) hzm;obtain ⟨x,hx⟩:=qN (FE z);rw [hx] at c1;have hxb:=hbE z;rw [hx] at hxb;have hwx:IntKind.i64.wrap (x+g3)=x+g3:=IntWalk.i64_in _ qO;have hn1:Z≠GE:=qO;have hn2:GE≠Z:=Ne.symm hn1;have HX1:=Lib.hid hx;clear hx;go_upto_region 9 with fail
          go_region_o
          replace H:=(H.setE (i:=z) hzm (x+g3)).below ((Below.refl _ _).drew);replace Z1:=(Z1.setOther (p:=⟨GE,z,none⟩) hn1 (.int .i64 (x+g3))).drew;generalize (w3.setCell ⟨GE,z,none⟩ (.int .i64 (x+g3))).drew=w4 at *;clear oz oz0 oz1 oz2 oz3 oz4 ozf c1 f1 hn1 hn2 hwx w3;obtain ⟨w3,hw3⟩:=qM (w4);subst hw3;obtain ⟨x1,rfl⟩:=qM (x)
          as_aux_lemma =>
           obtain ⟨oz,oz0,oz1,oz2,oz3,oz4,ozf⟩:=id Z1.facts5;obtain ⟨c1,f1⟩:=H.atN (i:=z) hzm;obtain ⟨x,hx⟩:=qN (FN z);rw [hx] at c1;have hxb:=hbN z;rw [hx] at hxb;have hwx:IntKind.i64.wrap (x+g4)=x+g4:=IntWalk.i64_in _ qO;have hn1:Z≠GN:=qO;have hn2:GN≠Z:=Ne.symm hn1;have HX2:=Lib.hid hx;clear hx;go_upto_region 10 with fail
           go_region_o
           replace H:=(H.setN (i:=z) hzm (x+g4)).below ((Below.refl _ _).drew);replace Z1:=(Z1.setOther (p:=⟨GN,z,none⟩) hn1 (.int .i64 (x+g4))).drew;generalize (w3.setCell ⟨GN,z,none⟩ (.int .i64 (x+g4))).drew=w4 at *;clear oz oz0 oz1 oz2 oz3 oz4 ozf c1 f1 hn1 hn2 hwx w3;obtain ⟨w3,hw3⟩:=qM (w4);subst hw3;obtain ⟨x2,rfl⟩:=qM (x)
           as_aux_lemma =>
            obtain ⟨oz,oz0,oz1,oz2,oz3,oz4,ozf⟩:=id Z1.facts5;obtain ⟨c1,f1⟩:=H.atU (i:=z) hzm;obtain ⟨x,hx⟩:=qN (FU z);rw [hx] at c1;have hxb:=hbU z;rw [hx] at hxb;have hwx:IntKind.i64.wrap (x+g5)=x+g5:=IntWalk.i64_in _ qO;have hn1:Z≠GU:=qO;have hn2:GU≠Z:=Ne.symm hn1;have HX3:=Lib.hid hx;clear hx;go_upto_region 11 with fail
            go_region_o
            replace H:=(H.setU (i:=z) hzm (x+g5)).below ((Below.refl _ _).drew);replace Z1:=(Z1.setOther (p:=⟨GU,z,none⟩) hn1 (.int .i64 (x+g5))).drew;generalize (w3.setCell ⟨GU,z,none⟩ (.int .i64 (x+g5))).drew=w4 at *;clear oz oz0 oz1 oz2 oz3 oz4 ozf c1 f1 hn1 hn2 hwx w3;obtain ⟨w3,hw3⟩:=qM (w4);subst hw3;obtain ⟨x3,rfl⟩:=qM (x)
            as_aux_lemma =>
             obtain ⟨oz,oz0,oz1,oz2,oz3,oz4,ozf⟩:=id Z1.facts5;go_wp2_with fail;go_roundw
             case rel =>
              have hwk:k+1≤l.length:=qO;clear hZB
              refine ⟨k+1,hwk,by go_num,H.congr (fun j hj=>?_) (fun j hj=>?_) (fun j hj=>?_)⟩
              · rw [HTE.out]
                have q0:=HFE.out j;have qz:=HZ.out;have qy:=HY.out;have p1:=HX1.out;unfold pullC;simp only
                by_cases ez:j=z
                · subst ez;rw [if_pos rfl,if_pos qO,if_neg qO];omega
                · rw [if_neg ez,if_neg qO,if_neg qO];omega
              · rw [HTN.out]
                have q0:=HFN2.out j;have qz:=HZ.out;have qy:=HY.out;have p1:=HX2.out;unfold pullC;simp only
                by_cases ez:j=z
                · subst ez;rw [if_pos rfl,if_pos qO,if_neg qO];omega
                · rw [if_neg ez,if_neg qO,if_neg qO];omega
              · rw [HTU.out]
                have q0:=HFU.out j;have qz:=HZ.out;have qy:=HY.out;have p1:=HX3.out;unfold pullC;simp only
                by_cases ez:j=z
                · subst ez;rw [if_pos rfl,if_pos qO,if_neg qO];omega
                · rw [if_neg ez,if_neg qO,if_neg qO];omega
             case measure=>exact zaa3 hlt
       · as_aux_lemma =>
          obtain ⟨z,hz⟩:∃ z:Nat,g2=(z:Int)+1:=⟨(g2 - 1).toNat,by omega⟩;have hzm:z<m:=qO
          have hzi:IntKind.i64.wrap (g2 - 1)=(z:Int):=by rw [hz,show (z:Int)+1 - 1=z by omega];exact IntWalk.i64_in _ qO
          have hzm2:(z:Int)<(m:Int):=qO;have hg2:(0:Int)<g2:=qO;have hg2b:decide ((0:Int)<g2)=true:=decide_eq_true hg2;have HZ:=Lib.hid hz;obtain ⟨y,hy⟩:∃ y:Nat,g1=(y:Int)+1:=⟨(g1 - 1).toNat,by omega⟩;have hym:y<m:=qO
          have hyi:IntKind.i64.wrap (g1 - 1)=(y:Int):=by rw [hy,show (y:Int)+1 - 1=y by omega];exact IntWalk.i64_in _ qO
          have hym2:(y:Int)<(m:Int):=qO;have hg1:(0:Int)<g1:=qO;have hg1b:decide ((0:Int)<g1)=true:=decide_eq_true hg1;have HY:=Lib.hid hy;have hyz:y≠z:=qO;have hzy:z≠y:=Ne.symm hyz;clear hz hy h1 h2 h3 hto hfr;go_upto_region 9 with fail
          try rw [hZ]
          have Z0:At (wr.alloc (.cells #[.int .i64 g1,.int .i64 g2,.int .i64 g3,.int .i64 g4,.int .i64 g5] 75)) Z [.int .i64 g1,.int .i64 g2,.int .i64 g3,.int .i64 g4,.int .i64 g5]:=At.new _ _ _ hZ.symm rfl;have H0:=H.below (w2:=wr.alloc (.cells #[.int .i64 g1,.int .i64 g2,.int .i64 g3,.int .i64 g4,.int .i64 g5] 75)) qBl;generalize wr.alloc (.cells #[.int .i64 g1,.int .i64 g2,.int .i64 g3,.int .i64 g4,.int .i64 g5] 75)=w3 at *;replace H:=H0;clear H0 e1 e2 e3 e4 e5 hbw hZ;have Z1:=Z0;clear Z0;obtain ⟨oz,oz0,oz1,oz2,oz3,oz4,ozf⟩:=id Z1.facts5;obtain ⟨c1,f1⟩:=H.atE (i:=z) hzm;obtain ⟨x,hx⟩:=qN (FE z);rw [hx] at c1;have hxb:=hbE z;rw [hx] at hxb;have hwx:IntKind.i64.wrap (x+g3)=x+g3:=IntWalk.i64_in _ qO;have hn1:Z≠GE:=qO;have hn2:GE≠Z:=Ne.symm hn1;have HX1:=Lib.hid hx;clear hx;go_upto_region 9 with fail
          go_region_o
          replace H:=(H.setE (i:=z) hzm (x+g3)).below ((Below.refl _ _).drew);replace Z1:=(Z1.setOther (p:=⟨GE,z,none⟩) hn1 (.int .i64 (x+g3))).drew;generalize (w3.setCell ⟨GE,z,none⟩ (.int .i64 (x+g3))).drew=w4 at *;clear oz oz0 oz1 oz2 oz3 oz4 ozf c1 f1 hn1 hn2 hwx w3;obtain ⟨w3,hw3⟩:=qM (w4);subst hw3;obtain ⟨x1,rfl⟩:=qM (x)
          as_aux_lemma =>
           obtain ⟨oz,oz0,oz1,oz2,oz3,oz4,ozf⟩:=id Z1.facts5;obtain ⟨c1,f1⟩:=H.atN (i:=z) hzm;obtain ⟨x,hx⟩:=qN (FN z);rw [hx] at c1;have hxb:=hbN z;rw [hx] at hxb;have hwx:IntKind.i64.wrap (x+g4)=x+g4:=IntWalk.i64_in _ qO;have hn1:Z≠GN:=qO;have hn2:GN≠Z:=Ne.symm hn1;have HX2:=Lib.hid hx;clear hx;go_upto_region 10 with fail
           go_region_o
           replace H:=(H.setN (i:=z) hzm (x+g4)).below ((Below.refl _ _).drew);replace Z1:=(Z1.setOther (p:=⟨GN,z,none⟩) hn1 (.int .i64 (x+g4))).drew;generalize (w3.setCell ⟨GN,z,none⟩ (.int .i64 (x+g4))).drew=w4 at *;clear oz oz0 oz1 oz2 oz3 oz4 ozf c1 f1 hn1 hn2 hwx w3;obtain ⟨w3,hw3⟩:=qM (w4);subst hw3;obtain ⟨x2,rfl⟩:=qM (x)
           as_aux_lemma =>
            obtain ⟨oz,oz0,oz1,oz2,oz3,oz4,ozf⟩:=id Z1.facts5;obtain ⟨c1,f1⟩:=H.atU (i:=z) hzm;obtain ⟨x,hx⟩:=qN (FU z);rw [hx] at c1;have hxb:=hbU z;rw [hx] at hxb;have hwx:IntKind.i64.wrap (x+g5)=x+g5:=IntWalk.i64_in _ qO;have hn1:Z≠GU:=qO;have hn2:GU≠Z:=Ne.symm hn1;have HX3:=Lib.hid hx;clear hx;go_upto_region 11 with fail
            go_region_o
            replace H:=(H.setU (i:=z) hzm (x+g5)).below ((Below.refl _ _).drew);replace Z1:=(Z1.setOther (p:=⟨GU,z,none⟩) hn1 (.int .i64 (x+g5))).drew;generalize (w3.setCell ⟨GU,z,none⟩ (.int .i64 (x+g5))).drew=w4 at *;clear oz oz0 oz1 oz2 oz3 oz4 ozf c1 f1 hn1 hn2 hwx w3;obtain ⟨w3,hw3⟩:=qM (w4);subst hw3;obtain ⟨x3,rfl⟩:=qM (x)
            as_aux_lemma =>
             obtain ⟨oz,oz0,oz1,oz2,oz3,oz4,ozf⟩:=id Z1.facts5;obtain ⟨c1,f1⟩:=H.atE (i:=y) hym;simp only [if_neg hyz] at c1;obtain ⟨x,hx⟩:=qN (FE y);rw [hx] at c1;have hxb:=hbE y;rw [hx] at hxb;have hwx:IntKind.i64.wrap (x - g3)=x - g3:=IntWalk.i64_in _ qO;have hn1:Z≠GE:=qO;have hn2:GE≠Z:=Ne.symm hn1;have HX4:=Lib.hid hx;clear hx;go_upto_region 13 with fail
             go_region_o
             replace H:=(H.setE (i:=y) hym (x - g3)).below ((Below.refl _ _).drew);replace Z1:=(Z1.setOther (p:=⟨GE,y,none⟩) hn1 (.int .i64 (x - g3))).drew;generalize (w3.setCell ⟨GE,y,none⟩ (.int .i64 (x - g3))).drew=w4 at *;clear oz oz0 oz1 oz2 oz3 oz4 ozf c1 f1 hn1 hn2 hwx w3;obtain ⟨w3,hw3⟩:=qM (w4);subst hw3;obtain ⟨x4,rfl⟩:=qM (x)
             as_aux_lemma =>
              obtain ⟨oz,oz0,oz1,oz2,oz3,oz4,ozf⟩:=id Z1.facts5;obtain ⟨c1,f1⟩:=H.atN (i:=y) hym;simp only [if_neg hyz] at c1;obtain ⟨x,hx⟩:=qN (FN y);rw [hx] at c1;have hxb:=hbN y;rw [hx] at hxb;have hwx:IntKind.i64.wrap (x - g4)=x - g4:=IntWalk.i64_in _ qO;have hn1:Z≠GN:=qO;have hn2:GN≠Z:=Ne.symm hn1;have HX5:=Lib.hid hx;clear hx;go_upto_region 14 with fail
              go_region_o
              replace H:=(H.setN (i:=y) hym (x - g4)).below ((Below.refl _ _).drew);replace Z1:=(Z1.setOther (p:=⟨GN,y,none⟩) hn1 (.int .i64 (x - g4))).drew;generalize (w3.setCell ⟨GN,y,none⟩ (.int .i64 (x - g4))).drew=w4 at *;clear oz oz0 oz1 oz2 oz3 oz4 ozf c1 f1 hn1 hn2 hwx w3;obtain ⟨w3,hw3⟩:=qM (w4);subst hw3;obtain ⟨x5,rfl⟩:=qM (x)
              as_aux_lemma =>
               obtain ⟨oz,oz0,oz1,oz2,oz3,oz4,ozf⟩:=id Z1.facts5;obtain ⟨c1,f1⟩:=H.atU (i:=y) hym;simp only [if_neg hyz] at c1;obtain ⟨x,hx⟩:=qN (FU y);rw [hx] at c1;have hxb:=hbU y;rw [hx] at hxb;have hwx:IntKind.i64.wrap (x - g5)=x - g5:=IntWalk.i64_in _ qO;have hn1:Z≠GU:=qO;have hn2:GU≠Z:=Ne.symm hn1;have HX6:=Lib.hid hx;clear hx;go_upto_region 15 with fail
               go_region_o
               replace H:=(H.setU (i:=y) hym (x - g5)).below ((Below.refl _ _).drew);replace Z1:=(Z1.setOther (p:=⟨GU,y,none⟩) hn1 (.int .i64 (x - g5))).drew;generalize (w3.setCell ⟨GU,y,none⟩ (.int .i64 (x - g5))).drew=w4 at *;clear oz oz0 oz1 oz2 oz3 oz4 ozf c1 f1 hn1 hn2 hwx w3;obtain ⟨w3,hw3⟩:=qM (w4);subst hw3;obtain ⟨x6,rfl⟩:=qM (x)
               as_aux_lemma =>
                obtain ⟨oz,oz0,oz1,oz2,oz3,oz4,ozf⟩:=id Z1.facts5;go_wp2_with fail;go_roundw
                case rel =>
                 have hwk:k+1≤l.length:=qO;clear hZB hzy
                 refine ⟨k+1,hwk,by go_num,H.congr (fun j hj=>?_) (fun j hj=>?_) (fun j hj=>?_)⟩
                 · rw [HTE.out]
                   have q0:=HFE.out j;have qz:=HZ.out;have qy:=HY.out;have p1:=HX1.out;have p2:=HX4.out;unfold pullC;simp only
                   by_cases ey:j=y
                   · subst ey;rw [if_pos rfl,if_neg qO,if_pos qO];omega
                   · rw [if_neg ey]
                     by_cases ez:j=z
                     · subst ez;rw [if_pos rfl,if_pos qO,if_neg qO];omega
                     · rw [if_neg ez,if_neg qO,if_neg qO];omega
                 · rw [HTN.out]
                   have q0:=HFN2.out j;have qz:=HZ.out;have qy:=HY.out;have p1:=HX2.out;have p2:=HX5.out;unfold pullC;simp only
                   by_cases ey:j=y
                   · subst ey;rw [if_pos rfl,if_neg qO,if_pos qO];omega
                   · rw [if_neg ey]
                     by_cases ez:j=z
                     · subst ez;rw [if_pos rfl,if_pos qO,if_neg qO];omega
                     · rw [if_neg ez,if_neg qO,if_neg qO];omega
                 · rw [HTU.out]
                   have q0:=HFU.out j;have qz:=HZ.out;have qy:=HY.out;have p1:=HX3.out;have p2:=HX6.out;unfold pullC;simp only
                   by_cases ey:j=y
                   · subst ey;rw [if_pos rfl,if_neg qO,if_pos qO];omega
                   · rw [if_neg ey]
                     by_cases ez:j=z
                     · subst ez;rw [if_pos rfl,if_pos qO,if_neg qO];omega
                     · rw [if_neg ez,if_neg qO,if_neg qO];omega
                case measure=>exact zaa3 hlt
   · obtain rfl:k=l.length:=by omega
     rw [List.take_length] at H
     as_aux_lemma =>
      clear hlt hk;obtain ⟨y,y0,y1,-⟩:=id H.x.facts2;have i3:=I3.out;have hss:=H.s;go_wp2_with fail;refine (i3 _ hss).mono ?_;rintro e w4 ⟨v,hds,rfl,oM,b4⟩;obtain ⟨av,cv,rfl⟩:=oM.len' HML.out;replace H:=H.below b4;have oMr:=oM.rd
      have hB4:B≤w4.heap.size:=by have:=(H.e.lt (k:=GE) rfl).2;have:=H.be;omega
      clear b4 y y0 y1 i3 hss oM
      have i4:=fun a c w h1 h2=>I4.out Lg.east (.inl rfl) a (some ⟨GE,0,none⟩) c m w h1 h2
      have hz1:=H.e.kr;go_upto_region 18 with fail;go_wp2_with fail;refine (i4 _ _ _ oMr hz1).mono ?_;rintro e w5 ⟨S1,rfl,o5,b5⟩;replace H:=H.below b5;replace oMr:=oMr.below b5;have p1:Zs w5 (some ⟨S1,0,none⟩) (solveL M (pullL Lg.east l m)):=o5.kr;clear b5 o5 i4 hz1 hB4
      have i4:=fun a c w h1 h2=>I4.out Lg.north (.inr (.inl rfl)) a (some ⟨GN,0,none⟩) c m w h1 h2
      have hz1:=H.n.kr;go_upto_region 19 with fail;go_wp2_with fail;refine (i4 _ _ _ oMr hz1).mono ?_;rintro e w6 ⟨S2,rfl,o6,b6⟩;replace H:=H.below b6;replace oMr:=oMr.below b6;replace p1:=p1.below b6;have p2:Zs w6 (some ⟨S2,0,none⟩) (solveL M (pullL Lg.north l m)):=o6.kr;clear b6 o6 i4 hz1
      have i4:=fun a c w h1 h2=>I4.out Lg.up (.inr (.inr rfl)) a (some ⟨GU,0,none⟩) c m w h1 h2
      have hz1:=H.p.kr;go_upto_region 20 with fail;go_wp2_with fail;refine (i4 _ _ _ oMr hz1).mono ?_;rintro e w7 ⟨S3,rfl,o7,b7⟩;replace H:=H.below b7;replace p1:=p1.below b7;replace p2:=p2.below b7;have p3:Zs w7 (some ⟨S3,0,none⟩) (solveL M (pullL Lg.up l m)):=o7.kr;clear b7 o7 i4 hz1 oMr;obtain ⟨y,y0,y1,-⟩:=id H.x.facts2;have mk:=MK.out;have hR:=H.r;have hU:=H.u;have hXw:=H.wx;clear H;go_wp2_with fail;clear y y0 y1 mk;have h0:=OwnW.made w7 w7.heap.size (m+1) (Nat.le_refl _) qO;rw [zaub ⟨st,l⟩ m] at h0;have hRl:=hR.lt
      go_loopw [135] (fun i wq=>∃ q:Nat,q≤m∧i=.int .i64 q∧OwnW wq w7.heap.size (.slice (some ⟨w7.heap.size,0,none⟩) (m+1) (m+1)) (fixU ⟨st,l⟩ m q)∧Below w7.heap.size w7 wq) (fun i _=>m - (intOf i).toNat)
      case atStart=>exact ⟨0,by omega,rfl,h0,qBl⟩
      case round =>
       clear h0;obtain ⟨q,hq,rfl,ho,hb⟩:=hrel
       by_cases hlt:q<m
       · obtain ⟨b1,f1,e1,g1,c1⟩:=Zs.at (p1.below hb) (k:=q) (by rw [HSL.out];exact hlt)
         obtain ⟨b2,f2,e2,g2,c2⟩:=Zs.at (p2.below hb) (k:=q) (by rw [HSL.out];exact hlt);obtain ⟨b3,f3,e3,g3,c3⟩:=Zs.at (p3.below hb) (k:=q) (by rw [HSL.out];exact hlt)
         cases e1
         cases e2
         cases e3
         rw [Nat.zero_add] at c1 c2 c3;have hfw:=HFW.out q;obtain ⟨x1,hx1⟩:=qN (nth (solveL M (pullL Lg.east l m)) q);obtain ⟨x2,hx2⟩:=qN (nth (solveL M (pullL Lg.north l m)) q);obtain ⟨x3,hx3⟩:=qN (nth (solveL M (pullL Lg.up l m)) q);rw [hx1] at c1 hfw;rw [hx2] at c2 hfw;rw [hx3] at c3 hfw;have HW:=Lib.hid hfw;clear hx1 hx2 hx3 hfw;obtain ⟨g,eg,-,-,hgw,hgc,hgf⟩:=OwnW.form ho (by rw [zajf];omega)
         cases eg
         obtain ⟨d1,d2,d3⟩:=hgc (q+1) (by rw [zajf];omega);have fr1:=hgf ((q+1)*3);have fr2:=hgf ((q+1)*3+1);have fr3:=hgf ((q+1)*3+2);have hq2:(q:Int)<(m:Int):=qO;have hq3:(q:Int)+1<(m:Int)+1:=qO;have hq4:IntKind.i64.wrap ((q:Int)+1)=(q:Int)+1:=IntWalk.i64_in _ qO;have hset:=KOwn.set ho (k:=q+1) (by rw [zajf];omega) (fixW ⟨st,l⟩ q);rw [zav7,HW.out] at hset;clear hgc hgf;go_wp2_with fail
         go_region_o
         all_goals
          go_wp2_with fail;go_roundw
          case rel =>
           refine ⟨q+1,by omega,by go_num,?_,(((hb.setCell (p:=⟨w7.heap.size,(q+1)*3,none⟩) (Nat.le_refl _) _).setCell (p:=⟨w7.heap.size,(q+1)*3+1,none⟩) (Nat.le_refl _) _).setCell (p:=⟨w7.heap.size,(q+1)*3+2,none⟩) (Nat.le_refl _) _).drew⟩
           exact hset.below ((Below.refl _ _).drew)
          case measure=>exact zaa3 hlt
       · obtain rfl:q=m:=by omega
         rw [zav8,← HFN.out] at ho
         have hfl:(fixNums ⟨st,l⟩).length=q+1:=by rw [HFN.out];simp
         have HFL:=Lib.hid hfl;have hbw:Below w.heap.size w wr:=hU.trans (hb.mono hU.size);obtain ⟨r,r0,r1,rf⟩:=id (hR.below hb).facts2;clear hfl p1 p2 p3 hlt;go_wp2_with fail;refine bodyPost_ret (v:=.tuple #[.agg #[.int .i64 d,.slice (some ⟨w7.heap.size,0,none⟩) (q+1) (q+1)],.bool true]) (by simp [results,Tryz.results119,go_sem,r,r0,r1]) rfl ?_
         refine ⟨d,fixNums ⟨st,l⟩,some ⟨w7.heap.size,0,none⟩,q+1,by rw [HFL.out],?_,fun _=>⟨rfl,rfl⟩,(hbw.setCell (p:=⟨X+1,0,none⟩) (by show w.heap.size≤X+1;omega) _).setCell (p:=⟨X+1,1,none⟩) (by show w.heap.size≤X+1;omega) _⟩
         rw [HFL.out]
         exact ((ho.setCell (p:=⟨X+1,0,none⟩) hRl _).setCell (p:=⟨X+1,1,none⟩) hRl _).mono hU.size
theorem zasw (a:Option Addr) (c:Nat) (st:Int) (l:List Lg) (w:World) (hv:svOk ⟨st,l⟩=true) (hs:Legs w a l):Calls Tryz.prog 119 #[.agg #[.int .i64 st,.slice a l.length c]] w (FixOut ⟨st,l⟩ w):=by
 by_cases hp:partsC ⟨st,l⟩=1
 · exact zasv a c st l w hv hp hs
 · exact zauc a c st l w hv hp hs
end Go.Proofs.YthfoloefkfadlaaGreatDoor
