/- Walks: spec.l1Find whole. -/
import Derived.Test.YthfoloefkfadlaaGreatDoorF1
import Derived.Test.YthfoloefkfadlaaGreatDoorT2
import Derived.Test.YthfoloefkfadlaaGreatDoorK7
set_option linter.unusedSimpArgs false
set_option linter.unusedVariables false
set_option maxHeartbeats 4000000
set_option maxRecDepth 100000
namespace Go.Proofs.YthfoloefkfadlaaGreatDoor
open Go Go.RowKit Go.Sort
theorem zayh {l:List Lg} {use:List Nat} {but frm tgt:Int} {q:Nat} (h:¬ ((nth l q).frm=frm∧(nth l q).to≠but)):NoBy l use but frm tgt (fun s=>s.ix=q∧s.back=false):=by
 rintro s st ⟨e1,e2⟩ hb hf
 exact absurd ⟨by simpa [Stp.beg,e1,e2] using hb,by simpa [Stp.fin,e1,e2] using hf⟩ h
theorem zayi {l:List Lg} {use:List Nat} {but frm tgt:Int} {q:Nat} (h:¬ ((nth l q).to=frm∧(nth l q).frm≠but)):NoBy l use but frm tgt (fun s=>s.ix=q∧s.back=true):=by
 rintro s st ⟨e1,e2⟩ hb hf
 exact absurd ⟨by simpa [Stp.beg,e1,e2] using hb,by simpa [Stp.fin,e1,e2] using hf⟩ h
theorem zawj {l:List Lg} {use:List Nat} {but frm tgt:Int} {q:Nat} (h:∀ st,¬ Wlk l use frm (nth l q).to tgt st):NoBy l use but frm tgt (fun s=>s.ix=q∧s.back=false):=by
 rintro s st ⟨e1,e2⟩ hb hf hw
 exact h st (by simpa [Stp.fin,e1,e2] using hw)
theorem zawk {l:List Lg} {use:List Nat} {but frm tgt:Int} {q:Nat} (h:∀ st,¬ Wlk l use frm (nth l q).frm tgt st):NoBy l use but frm tgt (fun s=>s.ix=q∧s.back=true):=by
 rintro s st ⟨e1,e2⟩ hb hf hw
 exact h st (by simpa [Stp.fin,e1,e2] using hw)
theorem zao7 {l:List Lg} {use:List Nat} {q:Nat} (hq:q ∈ use):Link (legsAt l use) (nth l q).frm (nth l q).to:=⟨nth l q,List.mem_map.2 ⟨q,hq,rfl⟩,.inl ⟨rfl,rfl⟩⟩
theorem zawl {l:List Lg} {use:List Nat} {q:Nat} (hq:q ∈ use):Link (legsAt l use) (nth l q).to (nth l q).frm:=(zao7 hq).symm
theorem zawm (a ua:Option Addr) (c uc n:Nat) (l:List Lg) (use:List Nat) (tgt:Int) (hn:n≤6) (hl:l.length≤1000) (hu:use.length≤1000) (hE:∀ i ∈ use,i<l.length∧EdgeIn n (nth l i)∧(nth l i).frm≠(nth l i).to) (r:Int) (par:Int→Int) (dep:Int→Nat) (D:Nat) (hD:D≤20000) (hR:Rtd (legsAt l use) r par dep D) :
 ∀ (m:Nat) (frm but:Int),mu par dep D frm but≤m→m≤100000→0≤frm→∀ (w:World),Legs w a l→Zs w ua (useZ use) →
   Calls Tryz.prog 190 #[.agg #[.int .i64 (n:Int),.slice a l.length c],.slice ua use.length uc,.int .i64 frm,.int .i64 tgt,.int .i64 but] w (FindOut l use but frm tgt (m+1) w):=by
 intro m
 induction m using Nat.strongRecOn with
 | _ m ih =>
 intro frm but hm hm2 hf0 w hs hz
 by_cases hft:frm=tgt
 · subst hft
   clear ih hR
   go_enter Tryz.func190,Tryz.ntmps190
   go_wp2_with fail;refine bodyPost_ret (v:=.tuple #[.slice (some ⟨w.heap.size+1,0,none⟩) 0 0,.bool true]) (by simp [results,Tryz.results190,go_sem]) rfl ?_
   refine ⟨[],true,_,_,rfl,?_,fun _=>.here _ _,fun h=>(by cases h),by simp,qBl⟩
   have:=KOwn.lit (K:=stpK) (T:=193) (w.alloc (.cells #[.int .i64 (n:Int),.slice a l.length c] 25)) w.heap.size qP
   simpa using this
 have HI:=Lib.hid (fun q (hq:q ∈ use) (h1:(nth l q).frm=frm) (h2:(nth l q).to≠but)=>show ∃ m',m'<m∧mu par dep D (nth l q).to frm≤m' from ⟨_,Nat.lt_of_lt_of_le (zasa hR (h1▸zao7 hq) hf0 h2) hm,Nat.le_refl _⟩)
 have HJ:=Lib.hid (fun q (hq:q ∈ use) (h1:(nth l q).to=frm) (h2:(nth l q).frm≠but)=>show ∃ m',m'<m∧mu par dep D (nth l q).frm frm≤m' from ⟨_,Nat.lt_of_lt_of_le (zasa hR (h1▸zawl hq) hf0 h2) hm,Nat.le_refl _⟩)
 have HIH:=Lib.hid ih;have HE:=Lib.hid hE
 have HNW:=Lib.hid (fun (h:NoBy l use but frm tgt (fun s=>∃ i,i<use.length∧s.ix=nth use i))=>zaxy h hft)
 have hfti:¬ frm=tgt:=hft
 have hftb:(frm == tgt)=false:=by simpa using hft
 clear ih hR hE hft
 go_enter Tryz.func190,Tryz.ntmps190
 go_wp2_with fail;obtain ⟨X,hX⟩:=qN (w.heap.size);rw [hX];have hwX:w.heap.size≤X:=qO
 go_loopw [12] (fun i wr=>∃ j:Nat,j≤use.length∧i=.int .i64 j∧Hid (NoBy l use but frm tgt (fun s=>∃ i,i<j∧s.ix=nth use i))∧At wr X [.int .i64 (n:Int),.slice a l.length c]∧Below w.heap.size w wr) (fun i _=>use.length - (intOf i).toNat)
 case atStart=>exact ⟨0,by omega,rfl,Lib.hid (fun s st h=>by obtain ⟨i,hi,_⟩:=h;omega),At.new w #[.int .i64 (n:Int),.slice a l.length c] 25 hX.symm rfl,qBl⟩
 case round =>
  obtain ⟨j,hj,rfl,HN,A,hb⟩:=hrel;clear hX;have hzr:=hb.size;obtain ⟨y,y0,y1,-⟩:=id A.facts2
  by_cases hlt:j<use.length
  case neg =>
   obtain rfl:j=use.length:=qO;have HW:=Lib.hid (HNW.out HN.out);clear HN HNW HIH HI HJ HE;go_wp2_with fail;refine bodyPost_ret (v:=.tuple #[.slice (some ⟨wr.heap.size,0,none⟩) 0 0,.bool false]) (by simp [results,Tryz.results190,go_sem]) rfl ?_
   exact ⟨[],false,_,_,rfl,KOwn.lit wr w.heap.size hb.size,fun h=>(by cases h),fun _=>⟨rfl,HW.out⟩,by simp,hb.alloc hb.size _⟩
  have hqm:=zaaf hlt;obtain ⟨hqi,hqE,hqn⟩:=HE.out (nth use j) hqm;obtain ⟨ub,uo,rfl,hub,hu1⟩:=Zs.at (hz.below hb) (by rw [zadl];exact hlt);rw [zajj hlt] at hu1;have HI2:=Lib.hid (HI.out _ hqm);have HJ2:=Lib.hid (HJ.out _ hqm)
  have HNX:=Lib.hid (fun h1 h2=>zaus HN.out h1 h2)
  have HQM:=Lib.hid hqm;obtain ⟨q,hq⟩:=qN (nth use j);rw [hq] at hu1 hqi hqE hqn HI2 HJ2 HNX HQM;clear hq hqm HN HNW;obtain ⟨b,off,rfl,hbw,e1,e2,e3,e4,e5⟩:=Legs.at (hs.below hb) hqi;obtain ⟨⟨a0,a1⟩,b0,b1⟩:=hqE
  have HFN:=Lib.hid (fun h=>zayh (l:=l) (use:=use) (but:=but) (frm:=frm) (tgt:=tgt) (q:=q) h)
  have HBN:=Lib.hid (fun h=>zayi (l:=l) (use:=use) (but:=but) (frm:=frm) (tgt:=tgt) (q:=q) h)
  have HFO:=Lib.hid (fun h=>zawj (l:=l) (use:=use) (but:=but) (frm:=frm) (tgt:=tgt) (q:=q) h)
  have HBO:=Lib.hid (fun h=>zawk (l:=l) (use:=use) (but:=but) (frm:=frm) (tgt:=tgt) (q:=q) h)
  have HGO1:=Lib.hid (fun st (h1:(nth l q).frm=frm) (h2:(nth l q).to≠but) (h:Wlk l use frm (nth l q).to tgt st)=>Wlk.go (s:=⟨q,false⟩) (but:=but) HQM.out h1 h2 h)
  have HGO2:=Lib.hid (fun st (h1:(nth l q).to=frm) (h2:(nth l q).frm≠but) (h:Wlk l use frm (nth l q).frm tgt st)=>Wlk.go (s:=⟨q,true⟩) (but:=but) HQM.out h1 h2 h)
  obtain ⟨g1,hg1⟩:=qN ((nth l q).frm);obtain ⟨g2,hg2⟩:=qN ((nth l q).to);obtain ⟨g3,hg3⟩:=qN ((nth l q).east);obtain ⟨g4,hg4⟩:=qN ((nth l q).north);obtain ⟨g5,hg5⟩:=qN ((nth l q).up);rw [hg1] at hqn e1 a0 a1 HI2 HJ2 HFN HBN HBO HGO1 HGO2;rw [hg2] at hqn e2 b0 b1 HI2 HJ2 HFN HBN HFO HGO1 HGO2;rw [hg3] at e3;rw [hg4] at e4;rw [hg5] at e5;clear hg1 hg2 hg3 hg4 hg5 HQM;have hqi2:(q:Int)<l.length:=qO;have hj2:(j:Int)<use.length:=qO
  have mixed:Tryz.prog.follows Departure.mixedOrders=true:=by kernel_rfl
  go_upto_region 6 with fail
  go_cut [13] (Boxed wr [.int .i64 g1,.int .i64 g2,.int .i64 g3,.int .i64 g4,.int .i64 g5])
  case first =>
   go_region_o
   all_goals (go_wp2_with fail;go_meet)
   all_goals exact ⟨_,rfl,Nat.le_refl _,by first|exact (At.new _ _ _ rfl rfl).drew|exact At.new _ _ _ rfl rfl,qBl⟩
  case rest =>
   obtain ⟨G,rfl,hG,AG,bG⟩:=hcut;replace A:=A.below bG;replace hu1:=(bG.cell (p:=⟨ub,uo+j,none⟩) hub).trans hu1;replace hub:=Nat.lt_of_lt_of_le hub bG.size;replace hb:=hb.trans (bG.mono hb.size);have hGX:X<wc.heap.size:=A.lt;clear bG y y0 y1 e1 e2 e3 e4 e5 hbw hzr hG;have hzr:=hb.size
   by_cases hA1:g1=frm
   · subst hA1
     have hB1:¬ g2=g1:=fun h=>hqn h.symm
     have HB:=Lib.hid (HBN.out (fun h=>hB1 h.1))
     by_cases hA2:g2=but
     · subst hA2
       have HA:=Lib.hid (HFN.out (fun h=>h.2 rfl))
       have HNN:=Lib.hid (HNX.out HA.out HB.out);obtain ⟨y,y0,y1,-⟩:=id A.facts2;obtain ⟨z,z0,z1,-,-,-,-⟩:=id AG.facts5;go_wp2_with fail;go_roundw
       case rel=>exact ⟨j+1,by omega,by go_num,HNN,A,hb⟩
       case measure=>simp [intOf];omega
     · skip
       obtain ⟨m',hm1,hm3⟩:=HI2.out rfl hA2;have hrec:=HIH.out m' hm1 g2 g1 hm3 qO qO _ (hs.below hb) (hz.below hb)
       have HG:=Lib.hid (fun st h=>HGO1.out st rfl hA2 h)
       obtain ⟨y,y0,y1,-⟩:=id A.facts2;obtain ⟨z,z0,z1,-,-,-,-⟩:=id AG.facts5;go_wp2_with fail;refine hrec.mono ?_;rintro e w6 ⟨st,ok,sv,sc,rfl,os,k1,k2,k3,b6⟩;replace A:=A.below b6;replace AG:=AG.below b6;replace hu1:=(b6.cell (p:=⟨ub,uo+j,none⟩) hub).trans hu1;replace hub:=Nat.lt_of_lt_of_le hub b6.size;replace hb:=hb.trans (b6.mono hb.size);clear b6 hrec;clear y y0 y1 z z0 z1
       cases ok with
       | true =>
         have HW:=Lib.hid (HG.out st (k1 rfl));have hsl:st.length≤1048576:=qO;have hzr2:=hb.size;clear k1 k2 HG
         go_wp2_with (at_builtin;refine zaaj stpI _ _ rfl rfl w.heap.size _ [⟨q,false⟩] st sv sc rfl (OwnS.one w6 w.heap.size ⟨q,false⟩ hzr2) rfl (os.alloc _).kr qP qO (by simp;omega) ?_;rintro av5 cv5 w7 o7 - b7 -)
         refine bodyPost_ret (v:=.tuple #[.slice av5 ([(⟨q,false⟩:Stp)] ++ st).length cv5,.bool true]) (by simp [results,Tryz.results190,go_sem]) rfl ?_
         exact ⟨[⟨q,false⟩] ++ st,true,av5,cv5,rfl,o7,fun _=>HW.out,fun h=>(by cases h),by simp;omega,(hb.alloc hb.size _).trans b7⟩
       | false =>
         have HA:=Lib.hid (HFO.out (k2 rfl).2);have HNN:=Lib.hid (HNX.out HA.out HB.out);clear k1 k2 HG;obtain ⟨y,y0,y1,-⟩:=id A.facts2;obtain ⟨z,z0,z1,-,-,-,-⟩:=id AG.facts5;go_wp2_with fail;go_roundw
         case rel=>exact ⟨j+1,by omega,by go_num,HNN,A,hb⟩
         case measure=>simp [intOf];omega
   · have HA:=Lib.hid (HFN.out (fun h=>hA1 h.1))
     by_cases hB1:g2=frm
     · subst hB1
       by_cases hB2:g1=but
       · subst hB2
         have HB:=Lib.hid (HBN.out (fun h=>h.2 rfl))
         have HNN:=Lib.hid (HNX.out HA.out HB.out);obtain ⟨y,y0,y1,-⟩:=id A.facts2;obtain ⟨z,z0,z1,-,-,-,-⟩:=id AG.facts5;go_wp2_with fail;go_roundw
         case rel=>exact ⟨j+1,by omega,by go_num,HNN,A,hb⟩
         case measure=>simp [intOf];omega
       · skip
         obtain ⟨m',hm1,hm3⟩:=HJ2.out rfl hB2;have hrec:=HIH.out m' hm1 g1 g2 hm3 qO qO _ (hs.below hb) (hz.below hb)
         have HG:=Lib.hid (fun st h=>HGO2.out st rfl hB2 h)
         obtain ⟨y,y0,y1,-⟩:=id A.facts2;obtain ⟨z,z0,z1,-,-,-,-⟩:=id AG.facts5;go_wp2_with fail;refine hrec.mono ?_;rintro e w6 ⟨st,ok,sv,sc,rfl,os,k1,k2,k3,b6⟩;replace A:=A.below b6;replace AG:=AG.below b6;replace hu1:=(b6.cell (p:=⟨ub,uo+j,none⟩) hub).trans hu1;replace hub:=Nat.lt_of_lt_of_le hub b6.size;replace hb:=hb.trans (b6.mono hb.size);clear b6 hrec;clear y y0 y1 z z0 z1
         cases ok with
         | true =>
           have HW:=Lib.hid (HG.out st (k1 rfl));have hsl:st.length≤1048576:=qO;have hzr2:=hb.size;clear k1 k2 HG
           go_wp2_with (at_builtin;refine zaaj stpI _ _ rfl rfl w.heap.size _ [⟨q,true⟩] st sv sc rfl (OwnS.one w6 w.heap.size ⟨q,true⟩ hzr2) rfl (os.alloc _).kr qP qO (by simp;omega) ?_;rintro av5 cv5 w7 o7 - b7 -)
           refine bodyPost_ret (v:=.tuple #[.slice av5 ([(⟨q,true⟩:Stp)] ++ st).length cv5,.bool true]) (by simp [results,Tryz.results190,go_sem]) rfl ?_
           exact ⟨[⟨q,true⟩] ++ st,true,av5,cv5,rfl,o7,fun _=>HW.out,fun h=>(by cases h),by simp;omega,(hb.alloc hb.size _).trans b7⟩
         | false =>
           have HB:=Lib.hid (HBO.out (k2 rfl).2);have HNN:=Lib.hid (HNX.out HA.out HB.out);clear k1 k2 HG;obtain ⟨y,y0,y1,-⟩:=id A.facts2;obtain ⟨z,z0,z1,-,-,-,-⟩:=id AG.facts5;go_wp2_with fail;go_roundw
           case rel=>exact ⟨j+1,by omega,by go_num,HNN,A,hb⟩
           case measure=>simp [intOf];omega
     · have HB:=Lib.hid (HBN.out (fun h=>hB1 h.1))
       have HNN:=Lib.hid (HNX.out HA.out HB.out);obtain ⟨y,y0,y1,-⟩:=id A.facts2;obtain ⟨z,z0,z1,-,-,-,-⟩:=id AG.facts5;go_wp2_with fail;go_roundw
       case rel=>exact ⟨j+1,by omega,by go_num,HNN,A,hb⟩
       case measure=>simp [intOf];omega
set_option maxHeartbeats 2000000
def WayOut (l:List Lg) (use:List Nat) (good:Prop) (frm tgt:Int) (w:World) (e:Ending) (w':World):Prop :=
 ∃ (st:List Stp) (ok:Bool) (av:Option Addr) (cv:Nat),e=.returned (.tuple #[.slice av st.length cv,.bool ok])∧OwnS w' w.heap.size (.slice av st.length cv) st∧(ok=true→good∧Wlk l use (-1) frm tgt st)∧(ok=false→st=[]∧(good→∀ st',¬ Wlk l use (-1) frm tgt st'))∧st.length≤100000∧Below w.heap.size w w'
def inSt (n:Int) (x:Int):Prop:=0≤x∧x<n
theorem mu_le {par:Int→Int} {dep:Int→Nat} {D:Nat} {r frm but:Int} {E:List Lg} (h:Rtd E r par dep D):mu par dep D frm but≤2*D+1:=by
 have:=h.2.2.1 frm;unfold mu
 split <;> omega
theorem zamt:∀ {a b:Nat},a≤b→depB a≤depB b
 | a,0,h=>by have:a=0:=by omega
             subst this;exact Nat.le_refl _
 | a,b+1,h=>by
   by_cases e:a=b+1
   · subst e;exact Nat.le_refl _
   · have:=zamt (a:=a) (b:=b) qO
     simp only [depB];omega
theorem zaut:depB 9=9841:=by decide
theorem zao8 (a:Option Addr) (c:Nat) (st:Int) (l:List Lg) (frm tgt:Int) (w:World) (hl:l.length≤1048576) (hs:Legs w a l) :
 Calls Tryz.prog 156 #[.agg #[.int .i64 st,.slice a l.length c],.int .i64 frm,.int .i64 tgt] w (WayOut l (treeS ⟨st,l⟩) (svOk ⟨st,l⟩=true∧inSt st frm∧inSt st tgt) frm tgt w):=by
 have i1:=fun w h=>zaaa a c st l w hl h
 cases hv:svOk ⟨st,l⟩
 · rw [hv] at i1
   go_enter Tryz.func156,Tryz.ntmps156
   go_wp2_with fail;refine (i1 _ (hs.below qBl)).mono ?_;rintro e w1 ⟨rfl,b1⟩;have hb:Below w.heap.size w w1:=((Below.refl _ _).alloc (Nat.le_refl _) _).trans (b1.mono qP);clear b1;go_wp2_with fail;refine bodyPost_ret (v:=.tuple #[.slice (some ⟨w1.heap.size,0,none⟩) 0 0,.bool false]) (by simp [results,Tryz.results156,go_sem]) rfl ?_
   exact ⟨[],false,_,_,rfl,KOwn.lit w1 _ hb.size,fun h=>(by cases h),fun _=>⟨rfl,fun h=>(by cases h.1)⟩,by simp,hb.alloc hb.size _⟩
 obtain ⟨v1,v2,v3,v4⟩:=svOk_iff.1 hv;simp only at v1 v2 v3 v4;rw [hv] at i1
 have hst:IntKind.i64.wrap (st - 1)=st - 1:=by rw [IntKind.wrap_i64];omega
 by_cases hf:0≤frm∧frm≤st - 1
 case neg =>
  have hin:inB frm 0 (st - 1)=false:=by simp [inB];omega
  go_enter Tryz.func156,Tryz.ntmps156
  go_wp2_with fail;refine (i1 _ (hs.below qBl)).mono ?_;rintro e w1 ⟨rfl,b1⟩;have hb:Below w.heap.size w w1:=((Below.refl _ _).alloc (Nat.le_refl _) _).trans (b1.mono qP);obtain ⟨hc1,_hf1⟩:=bcell b1
  go_wp2_with (go_at_call 85;refine (zaac _ _ _ _).mono ?_;rintro e w' ⟨rfl,rfl⟩)
  refine bodyPost_ret (v:=.tuple #[.slice (some ⟨w1.heap.size,0,none⟩) 0 0,.bool false]) (by simp [results,Tryz.results156,go_sem]) rfl ?_
  exact ⟨[],false,_,_,rfl,KOwn.lit w1 _ hb.size,fun h=>(by cases h),fun _=>⟨rfl,fun h=>(by obtain ⟨_,h2,_⟩:=h;unfold inSt at h2;omega)⟩,by simp,hb.alloc hb.size _⟩
 have hin:inB frm 0 (st - 1)=true:=by simp [inB];omega
 by_cases ht:0≤tgt∧tgt≤st - 1
 case neg =>
  have hin2:inB tgt 0 (st - 1)=false:=by simp [inB];omega
  go_enter Tryz.func156,Tryz.ntmps156
  go_wp2_with fail;refine (i1 _ (hs.below qBl)).mono ?_;rintro e w1 ⟨rfl,b1⟩;have hb:Below w.heap.size w w1:=((Below.refl _ _).alloc (Nat.le_refl _) _).trans (b1.mono qP);obtain ⟨hc1,_hf1⟩:=bcell b1
  go_wp2_with (go_at_call 85;refine (zaac _ _ _ _).mono ?_;rintro e w' ⟨rfl,rfl⟩)
  refine bodyPost_ret (v:=.tuple #[.slice (some ⟨w1.heap.size,0,none⟩) 0 0,.bool false]) (by simp [results,Tryz.results156,go_sem]) rfl ?_
  exact ⟨[],false,_,_,rfl,KOwn.lit w1 _ hb.size,fun h=>(by cases h),fun _=>⟨rfl,fun h=>(by obtain ⟨_,_,h2⟩:=h;unfold inSt at h2;omega)⟩,by simp,hb.alloc hb.size _⟩
 have hin2:inB tgt 0 (st - 1)=true:=by simp [inB];omega
 have hE:=zadm hv;have hgood:(svOk ⟨st,l⟩=true∧inSt st frm∧inSt st tgt):=⟨hv,by unfold inSt;omega,by unfold inSt;omega⟩;have HGood:=Lib.hid hgood;have HTA:=Lib.hid (zaki hE l.length (Nat.le_refl _))
 have hE2:∀ i ∈ treeS ⟨st,l⟩,i<l.length∧EdgeIn st.toNat (nth l i)∧(nth l i).frm≠(nth l i).to:=fun i hi=>by
  have hi2:i ∈ (treeSt st.toNat l l.length).2:=by simpa [treeS,treeF,hv] using hi
  have:=zac7 hE (Nat.le_refl _) i hi2
  exact ⟨this.1,this.2,zap3 (zabq v4 this.1)⟩
 have htl:(treeS ⟨st,l⟩).length≤9:=by
  have:=zac6 st.toNat l l.length
  have e:treeS ⟨st,l⟩=(treeSt st.toNat l l.length).2:=by simp [treeS,treeF,hv]
  rw [e];omega
 have i2:=fun w h=>zao6 a c st l w hl h
 have htree:treeS ⟨st,l⟩=(treeSt st.toNat l l.length).2:=by simp [treeS,treeF,hv]
 obtain ⟨par,dep,D,hD,hR⟩:=HTA.out.forest 0;rw [← htree] at hR
 have hD2:D≤9841:=by have:=zamt (a:=l.length) (b:=9) v3;rw [zaut] at this;omega
 have hmu:=mu_le (frm:=frm) (but:=-1) hR;obtain ⟨us,hus⟩:=qM (treeS ⟨st,l⟩);rw [← hus] at hE2 htl i2 hR ⊢;obtain ⟨n,rfl⟩:∃ n:Nat,st=n:=⟨st.toNat,by omega⟩;simp only [Int.toNat_natCast] at hE2
 have i3:=fun ua uc w hs hz=>zawm a ua c uc n l us tgt qO qO qO hE2 0 par dep D qO hR (2*D+1) frm (-1) hmu qO qO w hs hz
 have hul:=zadl us
 replace i2:=fun (w:World) (h:Legs w a l)=>show Calls Tryz.prog 191 #[.agg #[.int .i64 (n:Int),.slice a l.length c]] w fun e w'=>∃ av cv,e=.returned (.slice av us.length cv)∧OwnZ w' w.heap.size (.slice av us.length cv) (useZ us)∧Below w.heap.size w w' from (i2 w h).mono fun e w' ⟨av,cv,h1,h2,h3⟩=>⟨av,cv,by rw [← hul];exact h1,by rw [← hul];exact h2,h3⟩
 clear htree hus hE HTA v4 hR hmu hgood hv hE2 hul
 go_enter Tryz.func156,Tryz.ntmps156
 go_wp2_with fail;refine (i1 _ (hs.below qBl)).mono ?_;rintro e w1 ⟨rfl,b1⟩;obtain ⟨X,hX⟩:=qN (w.heap.size);have A1:At w1 X [.int .i64 (n:Int),.slice a l.length c]:=(At.new w #[.int .i64 (n:Int),.slice a l.length c] 25 hX.symm rfl).below b1;have hb:Below w.heap.size w w1:=((Below.refl _ _).alloc (Nat.le_refl _) _).trans (b1.mono qP);rw [hX];clear b1 i1 hX;obtain ⟨y,y0,y1,-⟩:=id A1.facts2;have hs1:=hs.below hb;go_upto_region 3 with (go_at_call 85;refine (zaac _ _ _ _).mono ?_;rintro e w' ⟨rfl,rfl⟩)
 go_cut [6,7] (fun v b wx=>∃ (st:List Stp) (ok:Bool) (av:Option Addr) (cv:Nat),v=.slice av st.length cv∧b=.bool ok∧OwnS wx w1.heap.size (.slice av st.length cv) st∧(ok=true→Wlk l us (-1) frm tgt st)∧(ok=false→st=[]∧∀ st',¬ Wlk l us (-1) frm tgt st')∧st.length≤2*D+1+1∧Below w1.heap.size w1 wx)
 case first =>
  go_region_held3 (fun w'=>Below w1.heap.size w1 w'∧∀ b o,b<w1.heap.size→w'.cell? ⟨b,o,none⟩=w1.cell? ⟨b,o,none⟩) (exact kept qHb)
   (first
   | (go_at_call 191;refine (i2 _ (hs1.below qHb)).mono ?_;rintro e wy ⟨ay,cy,rfl,oy,c1⟩;have By:=zaae (V:=w1) qHb c1;have zy:=By.size;clear c1)
   | (go_at_call 190;refine (i3 _ _ _ (hs1.below qHb) oy.kr).mono ?_;rintro e wz ⟨fst,fok,fa,fc,rfl,oz,k1,k2,k3,c1⟩;have Bz:=zaae (V:=w1) qHb c1;have zz:=Bz.size;clear c1))
  all_goals (go_wp2_with fail;go_meet)
  all_goals exact ⟨fst,fok,fa,fc,rfl,rfl,oz.mono qSo,k1,k2,k3,qHb⟩
 case rest =>
  obtain ⟨fst,fok,fa,fc,rfl,rfl,oz,k1,k2,k3,bb⟩:=hcut;go_wp2_with fail;refine bodyPost_ret (v:=.tuple #[.slice fa fst.length fc,.bool fok]) (by simp [results,Tryz.results156,go_sem]) rfl ?_
  exact ⟨fst,fok,fa,fc,rfl,oz.mono hb.size,fun h=>⟨by first|exact HGood.out|exact ⟨rfl,HGood.out.2⟩|exact ⟨trivial,HGood.out.2⟩,k1 h⟩,fun h=>⟨(k2 h).1,fun _=>(k2 h).2⟩,by omega,hb.trans (bb.mono hb.size)⟩
end Go.Proofs.YthfoloefkfadlaaGreatDoor
