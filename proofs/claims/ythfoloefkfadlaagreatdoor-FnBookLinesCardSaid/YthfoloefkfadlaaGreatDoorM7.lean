/- Walks: impl.TreeWay, the way through the tree, breadth first. -/
import Derived.Test.YthfoloefkfadlaaGreatDoorM6
import Derived.Test.YthfoloefkfadlaaGreatDoorP2
import Derived.Test.YthfoloefkfadlaaGreatDoorM2
import Derived.Deep.LoopGhost
import Derived.Deep.RegionHeld3
import Derived.Deep.DeepCutAuto
set_option linter.unusedSimpArgs false
set_option linter.unusedVariables false
namespace Go.Proofs.YthfoloefkfadlaaGreatDoor
open Go Go.RowKit Go.Sort
def seenL (n:Nat) (ord:List Nat):List Bool:=(List.range n).map fun v=>decide (v ∈ ord)
def byL (n:Nat) (C:Nat→Stp):List Stp:=(List.range n).map C
theorem zaer (n:Nat) (ord:List Nat):(seenL n ord).length=n:=by simp [seenL]
theorem zaif (n:Nat) (C:Nat→Stp):(byL n C).length=n:=by simp [byL]
theorem zaf3 {n v:Nat} {ord:List Nat} (h:v<n):nth (seenL n ord) v=decide (v ∈ ord):=by simp [seenL,nth,h]
theorem zaig {n v:Nat} {C:Nat→Stp} (h:v<n):nth (byL n C) v=C v:=by simp [byL,nth,h]
theorem zanc {n v:Nat} {ord:List Nat}:(seenL n ord).set v true=seenL n (ord ++ [v]):=by
 refine zabf (by simp [seenL]) fun k hk=>?_
 have hk':k<n:=by simpa [seenL] using hk
 rw [zaav (by rw [zaer];exact hk'),zaf3 hk',zaf3 hk']
 by_cases e:v=k
 · rw [if_pos e];simp [e]
 · rw [if_neg e]
   have:k≠v:=Ne.symm e
   simp [this]
theorem zavl (n:Nat):List.replicate n false=seenL n []:=by
 refine zabf (by simp [seenL]) fun k hk=>?_
 have:k<n:=by simpa using hk
 rw [zaf3 this];simp [nth,this]
theorem zayd {n v:Nat} {C:Nat→Stp} {s:Stp}:(byL n C).set v s=byL n (upS C v s):=by
 refine zabf (by simp [byL]) fun k hk=>?_
 have hk':k<n:=by simpa [byL] using hk
 rw [zaav (by rw [zaif];exact hk'),zaig hk',zaig hk'];unfold upS
 by_cases e:v=k
 · rw [if_pos e,if_pos e.symm]
 · rw [if_neg e,if_neg (Ne.symm e)]
theorem zavm (n:Nat) (s:Stp):List.replicate n s=byL n (fun _=>s):=by
 refine zabf (by simp [byL]) fun k hk=>?_
 have:k<n:=by simpa using hk
 rw [zaig this];simp [nth,this]
theorem OwnB.form {w:World} {B:Nat} {a:Option Addr} {n c:Nat} {xs:List Bool} (h:OwnB w B (.slice a n c) xs) (h0:0<xs.length) :
 ∃ g,a=some ⟨g,0,none⟩∧n=xs.length∧B≤g∧g<w.heap.size∧(∀ j,j<xs.length→w.cell? ⟨g,j,none⟩=some (.bool (nth xs j)))∧∀ j,w.frozen? ⟨g,j,none⟩=false:=by
 have hk:=KOwn.krow h h0;obtain ⟨g,cap,e,hB,hn,hc,hr⟩:=hk
 cases e
 refine ⟨g,rfl,rfl,hB,hr.lt,fun j hj=>?_,fun j=>hr.free j⟩
 have:=hr.at (k:=j) (x:=nth xs j) qO (by simp [hj]) (r:=0) (u:=.bool (nth xs j)) rfl
 simpa [boolK] using this
theorem OwnS.form {w:World} {B:Nat} {a:Option Addr} {n c:Nat} {xs:List Stp} (h:OwnS w B (.slice a n c) xs) (h0:0<xs.length) :
 ∃ g,a=some ⟨g,0,none⟩∧n=xs.length∧B≤g∧g<w.heap.size∧(∀ j,j<xs.length→w.cell? ⟨g,j*2,none⟩=some (.int .i64 ((nth xs j).ix:Int))∧w.cell? ⟨g,j*2+1,none⟩=some (.bool (nth xs j).back))∧∀ j,w.frozen? ⟨g,j,none⟩=false:=by
 have hk:=KOwn.krow h h0;obtain ⟨g,cap,e,hB,hn,hc,hr⟩:=hk
 cases e
 refine ⟨g,rfl,rfl,hB,hr.lt,fun j hj=>?_,fun j=>hr.free j⟩
 exact ⟨hr.at (k:=j) (x:=nth xs j) qO (by simp [hj]) (r:=0) (u:=.int .i64 ((nth xs j).ix:Int)) rfl,hr.at (k:=j) (x:=nth xs j) qO (by simp [hj]) (r:=1) (u:=.bool (nth xs j).back) rfl⟩
theorem OwnB.put {w:World} {B g n c:Nat} {xs:List Bool} (h:OwnB w B (.slice (some ⟨g,0,none⟩) n c) xs) {k:Nat} (hk:k<xs.length) (x:Bool):OwnB (w.setCell ⟨g,k,none⟩ (.bool x)) B (.slice (some ⟨g,0,none⟩) n c) (xs.set k x):=by
 have:=KOwn.set h hk x;rw [show k*boolK.sz=k from Nat.mul_one k] at this
 exact this
theorem OwnS.put {w:World} {B g n c:Nat} {xs:List Stp} (h:OwnS w B (.slice (some ⟨g,0,none⟩) n c) xs) {k:Nat} (hk:k<xs.length) (x:Stp):OwnS ((w.setCell ⟨g,k*2,none⟩ (.int .i64 (x.ix:Int))).setCell ⟨g,k*2+1,none⟩ (.bool x.back)) B (.slice (some ⟨g,0,none⟩) n c) (xs.set k x) :=
 KOwn.set h hk x
def toInts (l:List Nat):List Int:=l.map fun i:Nat=>(i:Int)
theorem zak9 (l:List Nat):(toInts l).length=l.length:=by simp [toInts]
structure Bst (w w0:World) (X n:Nat) (a:Option Addr) (l:List Lg) (c:Nat) (ta:Option Addr) (use:List Nat) (R:Nat) (C:Nat→Stp) (ord:List Nat) (wr:World):Prop where
 x:At wr X [.int .i64 (n:Int),.slice a l.length c]
 s:Legs wr a l
 t:Zs wr ta (useZ use)
 r:OwnB wr R (.slice (some ⟨R,0,none⟩) n n) (seenL n ord)
 c:OwnS wr R (.slice (some ⟨R+1,0,none⟩) n n) (byL n C)
 b:Below R w0 wr
 u:Below w.heap.size w wr
 xr:X<R
 zr:R+1<wr.heap.size
 wx:w.heap.size≤X
 ls:∀ b o,a=some ⟨b,o,none⟩→0<l.length→b<R
 tl:∀ b o,ta=some ⟨b,o,none⟩→0<use.length→b<R
section
variable {w w0 wr w2:World} {X n:Nat} {a:Option Addr} {l:List Lg} {c:Nat} {ta:Option Addr} {use:List Nat} {R:Nat} {C:Nat→Stp} {ord:List Nat}
theorem Bst.below (h:Bst w w0 X n a l c ta use R C ord wr) (hb:Below wr.heap.size wr w2):Bst w w0 X n a l c ta use R C ord w2 :=
 { h with x:=h.x.below hb,s:=h.s.below hb,t:=h.t.below hb,r:=h.r.below hb,c:=h.c.below hb,b:=h.b.trans (hb.mono (by have:=h.zr;omega)),u:=h.u.trans (hb.mono h.u.size),zr:=Nat.lt_of_lt_of_le h.zr hb.size }
theorem Bst.keep (h:Bst w w0 X n a l c ta use R C ord wr) (hb:Below (R+2) wr w2):Bst w w0 X n a l c ta use R C ord w2 :=
 have hz:=h.zr
 { h with
   x:=h.x.belowB hb (by have:=h.xr;omega)
   s:=by
    rcases h.s with e|⟨b,o,e,hb',hc⟩
    · exact .inl e
    · by_cases h0:0<l.length
      · have:=h.ls b o e h0
        exact .inr ⟨b,o,e,Nat.lt_of_lt_of_le hb' hb.size,fun j hj r u hu=>(hb.cell (p:=⟨b,_,none⟩) (by show b<R+2;omega)).trans (hc j hj r u hu)⟩
      · exact .inl (List.eq_nil_of_length_eq_zero qO)
   t:=by
    rcases h.t with e|⟨b,o,e,hb',hc⟩
    · exact .inl e
    · by_cases h0:0<use.length
      · have:=h.tl b o e h0
        exact .inr ⟨b,o,e,Nat.lt_of_lt_of_le hb' hb.size,fun j hj r u hu=>(hb.cell (p:=⟨b,_,none⟩) (by show b<R+2;omega)).trans (hc j hj r u hu)⟩
      · exact .inl (by simp [useZ];exact List.eq_nil_of_length_eq_zero qO)
   r:=h.r.blocks fun k hk _=>by have e:R=k:=by simpa [Value.ownBlock] using hk
                                subst e;exact hb.block _ qO
   c:=h.c.blocks fun k hk _=>by have e:R+1=k:=by simpa [Value.ownBlock] using hk
                                subst e;exact hb.block _ qO
   b:=h.b.trans (hb.mono qO)
   u:=h.u.trans (hb.mono (by have:=h.wx;have:=h.xr;omega))
   zr:=Nat.lt_of_lt_of_le h.zr hb.size }
theorem Bst.set (h:Bst w w0 X n a l c ta use R C ord wr) {v:Nat} (hv:v<n) (s:Stp) :
 Bst w w0 X n a l c ta use R (upS C v s) (ord ++ [v]) (((wr.setCell ⟨R,v,none⟩ (.bool true)).setCell ⟨R+1,v*2,none⟩ (.int .i64 (s.ix:Int))).setCell ⟨R+1,v*2+1,none⟩ (.bool s.back)):=by
 have hb:Below R wr (((wr.setCell ⟨R,v,none⟩ (.bool true)).setCell ⟨R+1,v*2,none⟩ (.int .i64 (s.ix:Int))).setCell ⟨R+1,v*2+1,none⟩ (.bool s.back)):=(((Below.refl R wr).setCell (p:=⟨R,v,none⟩) (Nat.le_refl _) _).setCell (p:=⟨R+1,v*2,none⟩) (by show R≤R+1;omega) _).setCell (p:=⟨R+1,v*2+1,none⟩) (by show R≤R+1;omega) _;have hz:=h.zr;refine { h with x:=h.x.belowB hb h.xr,s:=?_,t:=?_,r:=?_,c:=?_,b:=h.b.trans hb,u:=h.u.trans (hb.mono (by have:=h.wx;have:=h.xr;omega)),zr:=by simpa [World.setCell] using hz }
 · rcases h.s with e|⟨b,o,e,hb',hc⟩
   · exact .inl e
   · by_cases h0:0<l.length
     · exact .inr ⟨b,o,e,Nat.lt_of_lt_of_le hb' hb.size,fun j hj r u hu=>(hb.cell (p:=⟨b,_,none⟩) (h.ls b o e h0)).trans (hc j hj r u hu)⟩
     · exact .inl (List.eq_nil_of_length_eq_zero qO)
 · rcases h.t with e|⟨b,o,e,hb',hc⟩
   · exact .inl e
   · by_cases h0:0<use.length
     · exact .inr ⟨b,o,e,Nat.lt_of_lt_of_le hb' hb.size,fun j hj r u hu=>(hb.cell (p:=⟨b,_,none⟩) (h.tl b o e h0)).trans (hc j hj r u hu)⟩
     · exact .inl (by simp [useZ];exact List.eq_nil_of_length_eq_zero qO)
 · have h1:=OwnB.put h.r (k:=v) (by rw [zaer];exact hv) true
   rw [zanc] at h1
   exact (h1.setOther (p:=⟨R+1,v*2,none⟩) (fun e=>by have:R=R+1:=by simp [Value.ownBlock] at e
                                                     omega) _).setOther (p:=⟨R+1,v*2+1,none⟩) (fun e=>by have:R=R+1:=by simp [Value.ownBlock] at e
                                                                                                         omega) _
 · have h1:=OwnS.put (h.c.setOther (p:=⟨R,v,none⟩) (fun e=>by have:R+1=R:=by simp [Value.ownBlock] at e
                                                              omega) (.bool true)) (k:=v) (by rw [zaif];exact hv) s
   rw [zayd] at h1
   exact h1
theorem Bst.mark (h:Bst w w0 X n a l c ta use R C ord wr) {v:Nat} (hv:v<n):Bst w w0 X n a l c ta use R C (ord ++ [v]) (wr.setCell ⟨R,v,none⟩ (.bool true)):=by
 have hb:Below R wr (wr.setCell ⟨R,v,none⟩ (.bool true)):=(Below.refl R wr).setCell (p:=⟨R,v,none⟩) (Nat.le_refl _) _;have hz:=h.zr;refine { h with x:=h.x.belowB hb h.xr,s:=?_,t:=?_,r:=?_,c:=?_,b:=h.b.trans hb,u:=h.u.trans (hb.mono (by have:=h.wx;have:=h.xr;omega)),zr:=by simpa [World.setCell] using hz }
 · rcases h.s with e|⟨b,o,e,hb',hc⟩
   · exact .inl e
   · by_cases h0:0<l.length
     · exact .inr ⟨b,o,e,Nat.lt_of_lt_of_le hb' hb.size,fun j hj r u hu=>(hb.cell (p:=⟨b,_,none⟩) (h.ls b o e h0)).trans (hc j hj r u hu)⟩
     · exact .inl (List.eq_nil_of_length_eq_zero qO)
 · rcases h.t with e|⟨b,o,e,hb',hc⟩
   · exact .inl e
   · by_cases h0:0<use.length
     · exact .inr ⟨b,o,e,Nat.lt_of_lt_of_le hb' hb.size,fun j hj r u hu=>(hb.cell (p:=⟨b,_,none⟩) (h.tl b o e h0)).trans (hc j hj r u hu)⟩
     · exact .inl (by simp [useZ];exact List.eq_nil_of_length_eq_zero qO)
 · have h1:=OwnB.put h.r (k:=v) (by rw [zaer];exact hv) true
   rwa [zanc] at h1
 · exact h.c.setOther (p:=⟨R,v,none⟩) (fun e=>by have:R+1=R:=by simp [Value.ownBlock] at e
                                                 omega) (.bool true)
theorem Bst.atR (h:Bst w w0 X n a l c ta use R C ord wr) {v:Nat} (hv:v<n):wr.cell? ⟨R,v,none⟩=some (.bool (decide (v ∈ ord)))∧wr.frozen? ⟨R,v,none⟩=false:=by
 obtain ⟨g,hg,-,-,-,hc,hf⟩:=OwnB.form h.r (by rw [zaer];omega)
 cases hg
 have:=hc v (by rw [zaer];exact hv);rw [zaf3 hv] at this
 exact ⟨this,hf v⟩
theorem Bst.atC (h:Bst w w0 X n a l c ta use R C ord wr) {v:Nat} (hv:v<n):wr.cell? ⟨R+1,v*2,none⟩=some (.int .i64 ((C v).ix:Int))∧wr.cell? ⟨R+1,v*2+1,none⟩=some (.bool (C v).back)∧∀ j,wr.frozen? ⟨R+1,j,none⟩=false:=by
 obtain ⟨g,hg,-,-,-,hc,hf⟩:=OwnS.form h.c (by rw [zaif];omega)
 cases hg
 have:=hc v (by rw [zaif];exact hv);rw [zaig hv] at this
 exact ⟨this.1,this.2,hf⟩
end
set_option maxHeartbeats 2000000
set_option maxRecDepth 100000
theorem zayc (w:World) (y:Stp) (T:TypeId):Stps (w.alloc (.cells #[.int .i64 (y.ix:Int),.bool y.back] T)) (some ⟨w.heap.size,0,none⟩) [y]:=by
 refine KRd.mk qP fun j u hu=>?_
 rw [Nat.zero_add]
 exact (At.new (X:=w.heap.size) w _ T rfl rfl).c j u (by rw [zaa4,zabi,List.append_nil] at hu;exact hu)
theorem zaxh {l:List Lg} {q u:Nat} {ord:List Nat} {j:Nat} {b:Bool} (hj:j<2) (hb:b=decide (j=1)) (h0:0<j→SeenF l q u ord false) (hn:SeenF l q u ord b):(0<j+1→SeenF l q u ord false)∧(1<j+1→SeenF l q u ord true):=by
 have:j=0∨j=1:=qO
 rcases this with rfl|rfl
 · subst hb;exact ⟨fun _=>hn,fun h=>by omega⟩
 · subst hb;exact ⟨fun _=>h0 qO,fun _=>hn⟩
theorem zajv {l:List Lg} {q u:Nat} {ord:List Nat} {b:Bool} (h:(⟨q,b⟩:Stp).beg l=(u:Int)→∃ v ∈ ord,(⟨q,b⟩:Stp).fin l=(v:Int)):SeenF l q u ord b:=by
 rintro ⟨x,y⟩ h1 h2 h3;simp only at h1 h2;subst h1 h2
 exact h h3
theorem zary (a:Option Addr) (c n:Nat) (l:List Lg) (frm tgt:Nat) (w:World) (hv:svOk ⟨(n:Int),l⟩=true) (hf:frm<n) (ht:tgt<n) (hr:Reach (legsAt l (treeF n l)) (frm:Int) (tgt:Int)) (hs:Legs w a l) :
 Calls Tryz.prog 211 #[.agg #[.int .i64 (n:Int),.slice a l.length c],.int .i64 (frm:Int),.int .i64 (tgt:Int)] w fun e w'=>∃ (sts:List Stp) (av:Option Addr) (cv:Nat),e=.returned (.tuple #[.slice av sts.length cv,.bool true])∧OwnS w' w.heap.size (.slice av sts.length cv) sts∧Chn l (treeF n l) (frm:Int) (tgt:Int) sts∧sts.length≤6∧Below w.heap.size w w':=by
 obtain ⟨v1,v2,v3⟩:=st_in hv;simp only at v1 v2 v3
 have hE:∀ g ∈ l,EdgeIn n g:=by
  have:=zadm hv
  simpa using this
 have i1:=fun w h=>zaab a c (n:Int) l w qO h
 rw [hv] at i1
 have I2:=Lib.hid (fun w h=>zaoa a c n l w hv h)
 have HU:=Lib.hid (fun i (hi:i ∈ treeF n l)=>(zac7 hE (Nat.le_refl _) i hi:i<l.length∧EdgeIn n (nth l i)))
 have hul:(treeF n l).length≤9:=by have:=zac6 n l l.length;unfold treeF;omega
 have hn1:isIdx (frm:Int) (n:Int)=true:=by simp [isIdx];omega
 have hn2:isIdx (tgt:Int) (n:Int)=true:=by simp [isIdx];omega
 have HR:=Lib.hid hr
 have MB:=Lib.hid (fun W=>zaq5 n qO W)
 have MS:=Lib.hid (fun W=>zaq6 n qO W)
 have I3:=Lib.hid (fun (s:Stp) (w:World) (hq:s.ix<l.length) h=>zaia a c (n:Int) l s w hq qO h)
 have hls:∀ b o,a=some ⟨b,o,none⟩→0<l.length→b<w.heap.size:=fun b o e h0=>by rw [e] at hs;exact hs.lt h0
 obtain ⟨us,hus⟩:=qN (treeF n l);rw [hus] at I2 HU hul HR ⊢;have hzl:=zadl us;have HZL:=Lib.hid hzl;clear hus hr hE hv hzl;have nn:(0:Int)≤(n:Int):=qO;have hfi:(frm:Int)<(n:Int):=qO;have hti:(tgt:Int)<(n:Int):=qO
 go_enter Tryz.func211,Tryz.ntmps211
 go_wp2_with fail;refine (i1 _ (hs.below qBl)).mono ?_;rintro e w1 ⟨rfl,b1⟩;obtain ⟨X,hX⟩:=qN (w.heap.size);have A1:At w1 X [.int .i64 (n:Int),.slice a l.length c]:=(At.new w #[.int .i64 (n:Int),.slice a l.length c] 25 hX.symm rfl).below b1;have hb:Below w.heap.size w w1:=((Below.refl _ _).alloc (Nat.le_refl _) _).trans (b1.mono qP);rw [hX];clear b1 i1;obtain ⟨y,y0,y1,-⟩:=id A1.facts2;go_upto_region 3 with (go_at_call 98;refine (zaal _ _ _).mono ?_;rintro e w' ⟨rfl,rfl⟩);have i2:=I2.out;go_wp2_with fail;refine (i2 _ (hs.below hb)).mono ?_;rintro e w2 ⟨ta,tc,rfl,o2,b2⟩;rw [HZL.out];rw [HZL.out] at o2;have A2:=A1.below b2;replace hb:=hb.trans (b2.mono hb.size);have hz2:=o2.kr
 have htl:∀ b o,ta=some ⟨b,o,none⟩→0<us.length→b<w2.heap.size:=fun b o e h0=>by
  rcases hz2 with e2|⟨b',o',e2,hb',-⟩
  · have:=HZL.out;rw [e2] at this;simp at this;omega
  · rw [e] at e2;cases e2;exact hb'
 clear b2 y y0 y1 A1 i2 o2;obtain ⟨y,y0,y1,-⟩:=id A2.facts2;have mb:=MB.out;have ms:=MS.out;go_upto_region 6 with fail;obtain ⟨R,hR⟩:=qN (w2.heap.size);rw [hR];have hXR:X<R:=qO;have hwX:w.heap.size≤X:=qO
 have H0:Bst w w2 X n a l c ta us R (fun _=>⟨0,false⟩) [] ((w2.alloc (.cells (madeCells #[.bool false] n) 4)).alloc (.cells (madeCells #[.int .i64 0,.bool false] (n*2)) 193)):=by
  have r0:=OwnB.made w2 R n qO qO;have c0:=OwnS.made (w2.alloc (.cells (madeCells #[.bool false] n) 4)) R n (by simp;omega) qO;rw [zavl,hR] at r0;rw [zavm,show (w2.alloc (.cells (madeCells #[.bool false] n) 4)).heap.size=R+1 by simp [hR]] at c0
  exact { x:=(A2.alloc _).alloc _,s:=(hs.below hb).below qBl,t:=hz2.below qBl,r:=r0.alloc _,c:=c0,b:=qBl,u:=hb.trans (Below.mono (show Below w2.heap.size w2 _ from qBl) hb.size),xr:=hXR,zr:=by simp;omega,wx:=hwX,ls:=fun b o e h0=>by have:=hls b o e h0;omega,tl:=fun b o e h0=>by have:=htl b o e h0;omega }
 generalize (w2.alloc (.cells (madeCells #[.bool false] n) 4)).alloc (.cells (madeCells #[.int .i64 0,.bool false] (n*2)) 193)=w3 at *;clear y y0 y1 mb ms hz2 A2 hb htl hls hX MB MS I2 hR;obtain ⟨r0,rf⟩:=H0.atR hf;have hzr:=H0.zr;go_upto_region 8 with fail;have H1:=H0.mark hf;rw [List.nil_append] at H1;clear H0 r0 rf;generalize hW4:w3.setCell ⟨R,frm,none⟩ (.bool true)=w4 at *
 have hz4:w4.heap.size=w3.heap.size:=by rw [← hW4];simp [World.setCell]
 clear hW4
 go_loopg [11] (n+1) (fun gk v wr=>∃ (C:Nat→Stp) (ord:List Nat) (p g off cap:Nat),v=.slice (some ⟨g,off,none⟩) (toInts (ord.drop p)).length cap∧Que wr g off cap (toInts (ord.drop p))∧TInv n frm l us C ord p∧p≤ord.length∧gk+p=n+1∧Bst w w2 X n a l c ta us R C ord wr∧R+2≤g)
 case atStart =>
  refine ⟨_,[frm],0,w4.heap.size,0,1,by first|rfl|(rw [hz4];rfl),?_,TInv.first _ hf,by simp,by omega,H1.below qBl,by omega⟩
  have:=Que.one w4 (frm:Int)
  simpa [toInts] using this
 case round =>
  clear H1 hzr hz4;obtain ⟨C,ord,p,g,off,cap,rfl,hq,hB,hp,hgk,H,hg⟩:=hrel;have hlen:=hB.len
  by_cases hlt:p<ord.length
  · as_aux_lemma =>
     obtain ⟨u,hu⟩:=qM (nth ord p);have hd:=zab3 hlt;rw [← hu] at hd
     have hge:ord[p]?=some u:=by rw [getElem?_nth hlt,hu]
     have huN:u<n:=hB.lt u (List.mem_of_getElem? hge)
     have ht2:toInts (ord.drop p)=(u:Int) :: toInts (ord.drop (p+1)):=by rw [hd];rfl
     have hl:(toInts (ord.drop (p+1))).length≤16:=by rw [zak9];simp;omega
     clear hu;rw [ht2] at hq ⊢;have HGE:=Lib.hid hge;clear hd ht2 hge;have c1:=hq.cell (j:=0) qP
     have hcap:(toInts (ord.drop (p+1))).length+1≤cap:=by have:=hq.1;simpa using this
     have hq2:=hq.pop;have hsl:=zavk g off cap (toInts (ord.drop (p+1))).length hcap;generalize (if cap=1 then off else off+1)=off2 at hq2 hsl;simp only [List.length_cons,Nat.add_zero,nth,List.getD_cons_zero] at c1 ⊢;clear hq;generalize hn:(toInts (List.drop (p+1) ord)).length=N at *;have HNL:=Lib.hid hn;clear hn;go_wp2_with fail;clear hsl c1
     go_loopw [11,61] (fun v jj wi=>∃ (i:Nat) (C:Nat→Stp) (ord':List Nat) (g off cap:Nat),i≤us.length∧jj=.int .i64 i∧v=.slice (some ⟨g,off,none⟩) (toInts (ord'.drop (p+1))).length cap∧Que wi g off cap (toInts (ord'.drop (p+1)))∧TInv n frm l us C ord' p∧p<ord'.length∧Hid (ord'[p]?=some u)∧Hid (Seen l us u ord' i)∧Bst w w2 X n a l c ta us R C ord' wi∧R+2≤g) (fun _ jj _=>us.length - (intOf jj).toNat)
     case atStart=>exact ⟨0,C,ord,g,off2,cap - 1,by omega,rfl,by rw [HNL.out],hq2,hB,hlt,HGE,Seen.zero _ _ _ _,H,hg⟩
     case round =>
      clear H hB hq2 HNL hp hlt HGE hg hlen;obtain ⟨i,C,ord',g,off,cap,hi,rfl,rfl,hq,hB,hp',HGE,HS,H,hg⟩:=hrel
      by_cases hlt2:i<us.length
      · as_aux_lemma =>
         obtain ⟨ub,uo,rfl,hub,hu1⟩:=Zs.at H.t (k:=i) (by rw [zadl];exact hlt2);rw [zajj hlt2] at hu1;obtain ⟨hql,hqE⟩:=HU.out (nth us i) (zaaf hlt2)
         have HSN:=Lib.hid (fun (o:List Nat) (h0:Seen l us u o i) h1 h2=>Seen.next (l:=l) (use:=us) (u:=u) (ord:=o) (i:=i) h0 h1 h2)
         have HMEM:=Lib.hid (zaaf hlt2);obtain ⟨q,hqe⟩:=qN (nth us i);rw [hqe] at hu1 hql hqE HSN HMEM;clear hqe;have hi2:(i:Int)<(us.length:Int):=qO;have hi9:(i:Int)≤9:=qO;obtain ⟨Z,hZ⟩:=qN (wr.heap.size)
         have hgZ:g<Z:=by have:=hq.lt;omega
         have hRZ:R+1<Z:=by have:=H.zr;omega
         go_wp2_with fail
         try rw [hZ]
         have L1:At (wr.alloc (.cells #[.int .i64 (q:Int),.bool false,.int .i64 (q:Int),.bool true] 193)) Z [.int .i64 (q:Int),.bool false,.int .i64 (q:Int),.bool true]:=At.new _ _ _ hZ.symm rfl;have H1:=H.below (w2:=wr.alloc (.cells #[.int .i64 (q:Int),.bool false,.int .i64 (q:Int),.bool true] 193)) qBl;have hq1:=hq.alloc (.cells #[.int .i64 (q:Int),.bool false,.int .i64 (q:Int),.bool true] 193);generalize wr.alloc (.cells #[.int .i64 (q:Int),.bool false,.int .i64 (q:Int),.bool true] 193)=w5 at *;clear H hq hu1 hub hZ
         go_loopw [11,71] (fun v jj wj=>∃ (j:Nat) (C:Nat→Stp) (ord':List Nat) (g off cap:Nat),j≤2∧jj=.int .i64 j∧v=.slice (some ⟨g,off,none⟩) (toInts (ord'.drop (p+1))).length cap∧Que wj g off cap (toInts (ord'.drop (p+1)))∧TInv n frm l us C ord' p∧p<ord'.length∧Hid (ord'[p]?=some u)∧Hid (Seen l us u ord' i)∧Hid (0<j→SeenF l q u ord' false)∧Hid (1<j→SeenF l q u ord' true)∧Bst w w2 X n a l c (some ⟨ub,uo,none⟩) us R C ord' wj∧R+2≤g∧At wj Z [.int .i64 (q:Int),.bool false,.int .i64 (q:Int),.bool true]∧g≠Z) (fun _ jj _=>2 - (intOf jj).toNat)
         case atStart=>exact ⟨0,C,ord',g,off,cap,by omega,rfl,rfl,hq1,hB,hp',HGE,HS,(fun h=>absurd h qO),(fun h=>absurd h qO),H1,hg,L1,by omega⟩
         case round =>
          clear H1 L1 hB hq1 hp' HGE hg HS hgZ;obtain ⟨j,C,ord',g,off,cap,hj,rfl,rfl,hq,hB,hp',HGE,HS,HF0,HF1,H,hg,L,hgZ⟩:=hrel
          by_cases hlt3:j<2
          · obtain ⟨b,hbj⟩:∃ b:Bool,b=decide (j=1):=⟨_,rfl⟩
            have z0:wr.cell? ⟨Z,j*2,none⟩=some (.int .i64 (q:Int)):=by
             have:j=0∨j=1:=qO
             rcases this with rfl|rfl
             · exact L.c 0 _ rfl
             · exact L.c 2 _ rfl
            have z1:wr.cell? ⟨Z,j*2+1,none⟩=some (.bool b):=by
             have:j=0∨j=1:=qO
             rcases this with rfl|rfl
             · subst hbj;exact L.c 1 _ rfl
             · subst hbj;exact L.c 3 _ rfl
            have HTW:=Lib.hid (fun o h1 h2=>zaxh (l:=l) (q:=q) (u:=u) (ord:=o) hlt3 hbj h1 h2)
            have i3:=fun w h=>I3.out ⟨q,b⟩ w hql h
            obtain ⟨v,hfv,hvn⟩:∃ v:Nat,(⟨q,b⟩:Stp).fin l=(v:Int)∧v<n:=by
             obtain ⟨⟨a0,a1⟩,b0,b1⟩:=hqE;unfold Stp.fin
             cases b
             · exact ⟨(nth l q).to.toNat,by simp;omega,by omega⟩
             · exact ⟨(nth l q).frm.toNat,by simp;omega,by omega⟩
            obtain ⟨e1,he1⟩:=qN ((⟨q,b⟩:Stp).beg l);rw [hfv,he1] at i3;have HFV:=Lib.hid hfv;have HE1:=Lib.hid he1;clear hfv he1 hbj;have hj2:(j:Int)<2:=qO;have hjn:(0:Int)≤(j:Int):=qO;obtain ⟨S,hSe⟩:=qN (wr.heap.size)
            have hZS:Z<S:=by have:=L.lt;omega
            have hgS:g<S:=by have:=hq.lt;omega
            go_upto_region 17 with fail
            try rw [hSe]
            have S1:At (wr.alloc (.cells #[.int .i64 (q:Int),.bool b] 193)) S [.int .i64 (q:Int),.bool b]:=At.new _ _ _ hSe.symm rfl;replace H:=H.below (w2:=wr.alloc (.cells #[.int .i64 (q:Int),.bool b] 193)) qBl;replace hq:=hq.alloc (.cells #[.int .i64 (q:Int),.bool b] 193);replace L:=L.alloc (.cells #[.int .i64 (q:Int),.bool b] 193);generalize wr.alloc (.cells #[.int .i64 (q:Int),.bool b] 193)=w6 at *;clear z0 z1 hSe;obtain ⟨y,y0,y1,-⟩:=id H.x.facts2;obtain ⟨oz,oz0,oz1,-⟩:=id S1.facts2;have hss:=H.s
            as_aux_lemma =>
             go_wp2_with fail;refine (i3 _ hss).mono ?_;rintro e w7 ⟨rfl,b7⟩;replace H:=H.below b7;replace hq:=hq.below b7;replace L:=L.below b7;replace S1:=S1.below b7;clear b7 y y0 y1 oz oz0 oz1 hss i3;obtain ⟨r0,rf⟩:=H.atR hvn;have hvi:(v:Int)<(n:Int):=qO
             by_cases hb1:e1=(u:Int)
             · by_cases hvo:v ∈ ord'
               · have hdo:decide (v ∈ ord')=true:=decide_eq_true hvo
                 rw [hdo] at r0;have HVO:=Lib.hid hvo;clear hdo hvo;subst hb1;go_wp2_with fail;go_roundw
                 case rel =>
                  obtain ⟨t0,t1⟩:=HTW.out ord' HF0.out (zajv fun _=>⟨v,HVO.out,HFV.out⟩)
                  exact ⟨j+1,C,ord',g,off,cap,by omega,by go_num,rfl,hq,hB,hp',HGE,HS,t0,t1,H,hg,L,hgZ⟩
                 case measure=>exact zaa3 hlt3
               · have hdo:decide (v ∈ ord')=false:=decide_eq_false hvo
                 rw [hdo] at r0;have hB2:=hB.add (st:=⟨q,b⟩) HGE.out hvn hvo HMEM.out HFV.out (by rw [HE1.out,hb1]);clear hdo hvo;subst hb1;obtain ⟨d0,d1,df⟩:=H.atC hvn;have df0:=df (v*2);have df1:=df (v*2+1);obtain ⟨oz,oz0,oz1,-⟩:=id S1.facts2;have hz1:S≠R:=qO;have hz2:S≠R+1:=qO;have hzz:R≠R+1:=qO
                 have hl2:(toInts (ord'.drop (p+1))).length≤1048576:=by have:=hB.len;rw [zak9];simp;omega
                 have hl3:=hB2.len;go_upto_region 21 with fail;have H2:=H.set hvn ⟨q,b⟩;have hq2:=((hq.other (a:=⟨R,v,none⟩) (by show g≠R;omega) (.bool true)).other (a:=⟨R+1,v*2,none⟩) (by show g≠R+1;omega) (.int .i64 (q:Int))).other (a:=⟨R+1,v*2+1,none⟩) (by show g≠R+1;omega) (.bool b);have L2:=((L.setOther (p:=⟨R,v,none⟩) (by show Z≠R;omega) (.bool true)).setOther (p:=⟨R+1,v*2,none⟩) (by show Z≠R+1;omega) (.int .i64 (q:Int))).setOther (p:=⟨R+1,v*2+1,none⟩) (by show Z≠R+1;omega) (.bool b);simp only at H2;generalize ((w7.setCell ⟨R,v,none⟩ (.bool true)).setCell ⟨R+1,v*2,none⟩ (.int .i64 (q:Int))).setCell ⟨R+1,v*2+1,none⟩ (.bool b)=w8 at *;clear H hq L S1 oz oz0 oz1 d0 d1 df df0 df1 r0 rf hz1 hz2 hzz;have hc9:(w8.alloc (.cells #[.int .i64 (v:Int)] 3)).cell? ⟨w8.heap.size,0,none⟩=some (.int .i64 (v:Int)):=qP;have hz8:=H2.zr
                 go_wp2_with (at_builtin;refine zaym _ _ rfl rfl g off cap (toInts (ord'.drop (p+1))) (v:Int) _ _ rfl (hq2.alloc _) rfl hc9 hl2 ?_;intro g' off' cap' w9 hq3 hg3 hb3 hk3)
                 go_roundw
                 case rel =>
                  have e:toInts ((ord' ++ [v]).drop (p+1))=toInts (ord'.drop (p+1)) ++ [(v:Int)]:=by
                   rw [List.drop_append_of_le_length qO];simp [toInts]
                  obtain ⟨t0,t1⟩:=HTW.out (ord' ++ [v]) (fun h=>(HF0.out h).more v) (zajv fun _=>⟨v,by simp,HFV.out⟩)
                  have hLl:=L2.lt;have hgl:=hq2.lt;have hsz:(w8.alloc (.cells #[.int .i64 (v:Int)] 3)).heap.size=w8.heap.size+1:=qP
                  refine ⟨j+1,_,ord' ++ [v],g',off',cap',by omega,by go_num,by rw [e,List.length_append];rfl,by rw [e];exact hq3,hB2,by simp;omega,?_,HS.out.more v,t0,t1,?_,?_,?_,?_⟩
                  · show _=_;rw [List.getElem?_append_left qO];exact HGE.out
                  · exact (H2.below (w2:=w8.alloc (.cells #[.int .i64 (v:Int)] 3)) qBl).keep (hb3 (R+2) qO qO)
                  · rcases hg3 with h|h <;> omega
                  · exact (L2.alloc _).block (hk3 _ qO qO)
                  · rcases hg3 with h|h <;> omega
                 case measure=>exact zaa3 hlt3
             · have hb2:(e1 == (u:Int))=false:=by simpa using hb1
               go_wp2_with fail;go_roundw
               case rel =>
                obtain ⟨t0,t1⟩:=HTW.out ord' HF0.out (zajv fun h=>absurd (HE1.out.symm.trans h) hb1)
                exact ⟨j+1,C,ord',g,off,cap,by omega,by go_num,rfl,hq,hB,hp',HGE,HS,t0,t1,H,hg,L,hgZ⟩
               case measure=>exact zaa3 hlt3
          · obtain rfl:j=2:=by omega
            go_wp2_with fail;go_roundw
            case rel=>exact ⟨i+1,C,ord',g,off,cap,by omega,by go_num,rfl,hq,hB,hp',HGE,HSN.out _ HS.out (HF0.out qO) (HF1.out qO),H,hg⟩
            case measure=>exact zaa3 hlt2
      · obtain rfl:i=us.length:=by omega
        have hlen:=hB.len;go_wp2_with fail
        go_roundg (gk - 1)
        case rel=>exact ⟨C,ord',p+1,g,off,cap,rfl,hq,hB.next HGE.out (Seen.all HS.out),by omega,by omega,H,hg⟩
        case measure=>omega
  · as_aux_lemma =>
     have e:p=ord.length:=qO
     have hnil:toInts (ord.drop p)=[]:=by rw [List.drop_eq_nil_of_le qO];rfl
     rw [hnil] at hq ⊢;simp only [List.length_nil]
     have htgt:tgt ∈ ord:=by
      obtain ⟨v,hv,e2⟩:=hB.all qO HR.out frm hB.start rfl;have:v=tgt:=qO
      exact this▸hv
     obtain ⟨r0,rf⟩:=H.atR ht;rw [decide_eq_true htgt] at r0;have hidx:=hB.idx htgt;have HTI:=Lib.hid hB;have HTG:=Lib.hid htgt;clear hnil hq hp hgk hlt e hB htgt hg hlen;go_upto_region 28 with fail;clear r0 rf
     go_loopg [19,20] (ord.idxOf tgt) (fun gk vs va w4=>∃ (u:Nat) (sts:List Stp) (av:Option Addr) (cv:Nat),va=.int .i64 (u:Int)∧vs=.slice av sts.length cv∧OwnS w4 (R+2) (.slice av sts.length cv) sts∧Hid (u ∈ ord)∧gk=ord.idxOf u∧sts.length+gk≤ord.idxOf tgt∧Hid (Chn l us (u:Int) (tgt:Int) sts.reverse)∧Bst w w2 X n a l c ta us R C ord w4)
     case atStart=>exact ⟨tgt,[],none,0,rfl,rfl,KOwn.nil,HTG,rfl,by simp,Chn.here _,H⟩
     case round =>
      rename_i wp
      clear H;obtain ⟨u,sts,av,cv,rfl,rfl,ho,hu,rfl,hle,HC,H⟩:=hrel;have hun:=HTI.out.lt u hu.out
      by_cases hne:u=frm
      · subst hne
        have hrv:=revSteps_any (R+2) av cv sts wr qO ho;go_wp2_with fail;refine hrv.mono ?_;rintro e w5 ⟨rfl,o5,r5⟩;go_wp2_with fail;refine bodyPost_ret (v:=.tuple #[.slice av sts.length cv,.bool true]) (by simp [results,Tryz.results211,go_sem]) rfl ?_;have hzr:=H.zr;have hxr:=H.xr;have hwx:=H.wx
        refine ⟨sts.reverse,av,cv,by rw [List.length_reverse],?_,HC.out,by rw [List.length_reverse];omega,H.u.trans (r5.below qO fun k hk=>by have:=(ho.lt hk).1;omega)⟩
        rw [List.length_reverse]
        exact o5.mono qO
      · obtain ⟨u',hu',hix,hfin,hbeg,hlt⟩:=HTI.out.back hu.out hne
        have i3:=fun w h=>I3.out (C u) w (HU.out _ hix).1 h
        rw [hbeg,hfin] at i3
        have HC2:=Lib.hid (show Chn l us (u':Int) (tgt:Int) (sts ++ [C u]).reverse by
         rw [List.reverse_append]
         exact Chn.go hix hbeg (by rw [hfin];exact HC.out))
        have HU2:=Lib.hid hu';obtain ⟨d0,d1,-⟩:=H.atC hun;have hstl:sts.length≤16:=qO;obtain ⟨S,hS⟩:=qN (C u);rw [hS] at i3 HC2 d0 d1;clear hS hix hfin hbeg hu' HC;obtain ⟨sq,sb⟩:=S;simp only at d0 d1 i3;have hui:(u:Int)<(n:Int):=qO
        have hnb:((u:Int) != (frm:Int))=true:=by simp;omega
        have hzr:=H.zr
        as_aux_lemma =>
         go_upto_region 30 with (at_builtin;refine zac0 stpI _ _ rfl rfl (R+2) (.slice av sts.length cv) sts [⟨sq,sb⟩] (sts ++ [⟨sq,sb⟩]) rfl 1 (sts.length+1) rfl qP (some ⟨wr.heap.size,0,none⟩) 1 rfl (ho.alloc _) rfl (zayc wr ⟨sq,sb⟩ _) qO qP (by simp;omega) ?_;rintro av5 cv5 w5 o5 - b5 -);replace H:=(H.below (w2:=wr.alloc (.cells #[.int .i64 (sq:Int),.bool sb] 193)) qBl).keep b5;obtain ⟨y,y0,y1,-⟩:=id H.x.facts2;replace d0:=(b5.cell (p:=⟨R+1,u*2,none⟩) (by show R+1<R+2;omega)).trans ((((Below.refl wr.heap.size wr).alloc (Nat.le_refl _) (.cells #[.int .i64 (sq:Int),.bool sb] 193)).cell (p:=⟨R+1,u*2,none⟩) hzr).trans d0);replace d1:=(b5.cell (p:=⟨R+1,u*2+1,none⟩) (by show R+1<R+2;omega)).trans ((((Below.refl wr.heap.size wr).alloc (Nat.le_refl _) (.cells #[.int .i64 (sq:Int),.bool sb] 193)).cell (p:=⟨R+1,u*2+1,none⟩) hzr).trans d1);have hss:=H.s;have hz5:=H.zr;clear ho b5 hzr
         go_region_held3 (fun w'=>Below w5.heap.size w5 w'∧∀ b o,b<w5.heap.size→w'.cell? ⟨b,o,none⟩=w5.cell? ⟨b,o,none⟩) (exact kept qHb) ((go_at_call 223;refine (i3 _ (hss.below qHb)).mono ?_;rintro e wy ⟨rfl,c1⟩;have By:=zaae (V:=w5) qHb c1;have zy:=By.size;clear c1))
         all_goals
          go_wp2_with fail
          go_roundg (ord.idxOf u')
          case rel =>
           refine ⟨u',sts ++ [⟨sq,sb⟩],av5,cv5,rfl,by rw [List.length_append];rfl,?_,HU2,rfl,by rw [List.length_append];simp;omega,HC2,H.below By⟩
           rw [List.length_append]
           exact o5.below By
          case measure=>exact hlt
end Go.Proofs.YthfoloefkfadlaaGreatDoor
