/- A region that draws its order, by what stays true behind each operation: each operation is looked at once, whatever came before it. No program. -/
import Derived.Orders
import Derived.RegionTactic
import Derived.Test.YthfoloefkfadlaaGreatDoorR1
import Derived.Test.YthfoloefkfadlaaGreatDoorK3
import Derived.Test.YthfoloefkfadlaaGreatDoorR2
set_option linter.unusedSimpArgs false
set_option linter.unusedVariables false
namespace Go.Proofs.YthfoloefkfadlaaGreatDoor
open Go
section
variable {P:Program} {md:Region.Mode} {ops:Array Oper} {Q:Exit→Act→World→Prop}
theorem zamy {J:(Nat→Bool)→Act→World→Prop}
 (hs:∀ i o,ops[i]?=some o→∀ b a w,J b a w→b i=false→(∀ e ∈ o.after,Region.binds md e=true→b e.on=true)→wpOp P ops Q i (fun a' w'=>J (fun j=>if j=i then true else b j) a' w') a w)
 (he:∀ b a w,J b a w→(∀ i o,ops[i]?=some o→b i=true∨∃ e ∈ o.after,Region.binds md e=true∧b e.on=false)→Q .normal a w) :
 ∀ (fuel:Nat) (rem:List Nat) (listed:Array Bool) (a:Act) (w:World),rem.length≤fuel→listed.size=ops.size→(∀ i,i<ops.size→listed.getD i false=false→i ∈ rem)→J (fun j=>listed.getD j false) a w→wpAny P md ops Q fuel listed a w
 | 0,rem,listed,a,w,hl,hz,hr,hJ=>by
   obtain rfl:=List.eq_nil_of_length_eq_zero (by omega:rem.length=0)
   have hall:∀ i,i<ops.size→listed.getD i false=true:=fun i hi=>by
    cases h:listed.getD i false with
    | true=>rfl
    | false=>exact absurd (hr i hi h) qP
   refine ⟨?_,he _ a w hJ fun i o ho=>.inl (hall i (by
    rcases Nat.lt_or_ge i ops.size with h|h
    · exact h
    · rw [Array.getElem?_eq_none h] at ho;cases ho))⟩
   cases hn:Region.ready md ops listed with
   | nil=>rfl
   | cons j js =>
     obtain ⟨h1,o,ho,-⟩:=mem_ready.1 (by rw [hn];exact List.mem_cons_self:j ∈ Region.ready md ops listed)
     have hj:j<ops.size:=by
      rcases Nat.lt_or_ge j ops.size with h|h
      · exact h
      · rw [Array.getElem?_eq_none h] at ho;cases ho
     have h2:=hall j hj
     simp [show j<listed.size by omega] at h1 h2
     rw [h1] at h2;cases h2
 | fuel+1,rem,listed,a,w,hl,hz,hr,hJ=>by
   refine ⟨fun hn=>he _ a w hJ fun i o ho=>?_,fun i hi=>?_⟩
   · have hi:i<ops.size:=by
      rcases Nat.lt_or_ge i ops.size with h|h
      · exact h
      · rw [Array.getElem?_eq_none h] at ho;cases ho
     cases h:listed.getD i false with
     | true=>exact .inl rfl
     | false =>
       refine .inr ?_
       by_cases hx:∃ e ∈ o.after,Region.binds md e=true∧listed.getD e.on false=false
       · exact hx
       · have:i ∈ Region.ready md ops listed:=mem_ready.2 ⟨by simp [show i<listed.size by omega] at h ⊢;exact h,o,ho,fun e h1 h2=>by
          cases h3:listed.getD e.on false with
          | true=>rfl
          | false=>exact absurd ⟨e,h1,h2,h3⟩ hx⟩
         rw [hn] at this;cases this
   · obtain ⟨h1,o,ho,hall⟩:=mem_ready.1 hi
     have hlt:i<ops.size:=by
      rcases Nat.lt_or_ge i ops.size with h|h
      · exact h
      · rw [Array.getElem?_eq_none h] at ho;cases ho
     have hf:listed.getD i false=false:=by simp [show i<listed.size by omega] at h1 ⊢;exact h1
     have hin:=hr i hlt hf
     refine wpOp_mono (fun a' w' hJ'=>?_) (hs i o ho _ a w hJ hf hall)
     refine zamy hs he fuel (rem.erase i) _ a' w' (by rw [List.length_erase_of_mem hin];omega) (by simpa using hz) (fun j hj h2=>?_) ?_
     · have hne:j≠i:=fun e=>by
        subst e
        simp [show j<listed.size by omega] at h2
       rw [getD_set_ne false (Ne.symm hne)] at h2
       exact (List.mem_erase_of_ne hne).2 (hr j hj h2)
     · have e:(fun j=>(listed.setIfInBounds i true).getD j false)=fun j=>if j=i then true else listed.getD j false:=by
        funext j
        by_cases hji:j=i
        · subst hji;simp [show j<listed.size by omega]
        · rw [getD_set_ne false (Ne.symm hji),if_neg hji]
       rw [e]
       exact hJ'
theorem zan4 {id:Nat} {a:Act} {w:World} (J:(Nat→Bool)→Act→World→Prop) (hm:P.follows .mixedOrders=true)
 (h0:J (fun _=>false) a w.drew)
 (hs:∀ i o,ops[i]?=some o→∀ b a w,J b a w→b i=false→(∀ e ∈ o.after,Region.binds .any e=true→b e.on=true)→wpOp P ops Q i (fun a' w'=>J (fun j=>if j=i then true else b j) a' w') a w)
 (he:∀ b a w,J b a w→(∀ i o,ops[i]?=some o→b i=true∨∃ e ∈ o.after,Region.binds .any e=true∧b e.on=false)→Q .normal a w):(Code.region id ops true).wp P Q a w:=by
 refine wp_region_any hm (zamy hs he ops.size (List.range ops.size) _ a _ qP qP (fun i hi _=>by simpa using hi) ?_)
 have e:(fun j=>(Array.replicate ops.size false).getD j false)=fun _=>false:=by
  funext j
  rcases Nat.lt_or_ge j ops.size with h|h
  · simp [h]
  · simp [Nat.not_lt.2 h]
 rw [e]
 exact h0
end
set_option maxHeartbeats 4000000
set_option maxRecDepth 100000
open Go Go.RowKit Go.Sort
def DrawnDd (R:Nat) (a:Option Addr) (n c p:Nat) (w:World) (e:Ending) (w':World):Prop :=
 ∃ (d:Dd) (q:Nat),e=.returned (.agg #[.int .i64 d.kind,.int .i64 d.index,.int .i64 d.leg.frm,.int .i64 d.leg.to,.int .i64 d.leg.east,.int .i64 d.leg.north,.int .i64 d.leg.up])∧(0≤d.kind∧d.kind≤11)∧(0≤d.index∧d.index≤10)∧q≤p+20∧Rdr w' R a n c q∧Upto w.heap.size R w w'
def kinds8:List Value:=[.int .i64 0,.int .i64 0,.int .i64 0,.int .i64 1,.int .i64 2,.int .i64 3,.int .i64 4,.int .i64 5]
theorem zasy (k:Nat) (h:k<8):∃ x:Int,0≤x∧x≤5∧kinds8[k]?=some (.int .i64 x):=by
 have:k=0∨k=1∨k=2∨k=3∨k=4∨k=5∨k=6∨k=7:=qO
 rcases this with rfl|rfl|rfl|rfl|rfl|rfl|rfl|rfl
 · exact ⟨0,by omega,by omega,rfl⟩
 · exact ⟨0,by omega,by omega,rfl⟩
 · exact ⟨0,by omega,by omega,rfl⟩
 · exact ⟨1,by omega,by omega,rfl⟩
 · exact ⟨2,by omega,by omega,rfl⟩
 · exact ⟨3,by omega,by omega,rfl⟩
 · exact ⟨4,by omega,by omega,rfl⟩
 · exact ⟨5,by omega,by omega,rfl⟩
theorem quo59 (k:Nat) (h:(k:Int)<60):∃ q:Nat,Int.tdiv (k:Int) 59=q∧q≤1:=⟨k / 59,by rw [Int.tdiv_eq_ediv_of_nonneg qO];omega,by omega⟩
structure DdJ (V:World) (R X:Nat) (a:Option Addr) (n c p:Nat) (av:Option Addr) (m cv:Nat) (b:Nat→Bool) (x5 x6 x7 x8 x9 x10 x11 x12 x13 x14 x15 x16 x17 x18 x19 x20 x21 x22:Value) (w':World):Prop where
 up:Upto V.heap.size R V w'
 rd:∃ q,q+((!b 2).toNat+(!b 6).toNat+(!b 15).toNat)=p+3∧Rdr w' R a n c q
 fin:b 18=true→∀ j,j<18→b j=true
 arr:b 0=true→∃ N,x6=.slice (some ⟨N,0,none⟩) 8 8∧V.heap.size≤N∧(b 4=false→At w' N kinds8)
 p7:b 1=true→x7=.pointer (some ⟨R,0,none⟩)
 k8:b 2=true→∃ k:Nat,k<8∧x8=.int .i64 (k:Int)
 i9:b 3=true→∃ N k:Nat,k<8∧x6=.slice (some ⟨N,0,none⟩) 8 8∧x9=.pointer (some ⟨N,k,none⟩)
 a3:b 3=true→b 0=true
 l10:b 4=true→∃ z:Int,(0≤z∧z≤5)∧x10=.int .i64 z
 p11:b 5=true→x11=.pointer (some ⟨R,0,none⟩)
 k12:b 6=true→∃ k:Nat,k<60∧x12=.int .i64 (k:Int)
 q13:b 7=true→∃ k:Nat,k≤1∧x13=.int .i64 (k:Int)
 m14:b 8=true→∃ z:Int,(0≤z∧z≤6)∧x14=.int .i64 z
 s15:b 9=true→∃ z:Int,(0≤z∧z≤11)∧x15=.int .i64 z
 p16:b 10=true→x16=.pointer (some ⟨R,0,none⟩)
 f17:b 11=true→x17=.pointer (some ⟨X,1,none⟩)
 l18:b 12=true→x18=.slice av m cv
 n19:b 13=true→x19=.int .i64 (m:Int)
 n20:b 14=true→x20=.int .i64 ((m:Int)+1)
 k21:b 15=true→∃ k:Nat,k≤10∧x21=.int .i64 (k:Int)
 b22:b 16=true→∃ z y:Int,(0≤z∧z≤11)∧(0≤y∧y≤10)∧x22=.agg #[.int .i64 z,.int .i64 y,.int .i64 0,.int .i64 0,.int .i64 0,.int .i64 0,.int .i64 0]
 d5:b 17=true→∃ Y,x5=.pointer (some ⟨Y,0,none⟩)∧V.heap.size≤Y∧Y<w'.heap.size∧(b 18=false→At w' Y [.int .i64 0,.int .i64 0,.int .i64 0,.int .i64 0,.int .i64 0,.int .i64 0,.int .i64 0]) ∧
  (b 18=true→∃ z y:Int,(0≤z∧z≤11)∧(0≤y∧y≤10)∧At w' Y [.int .i64 z,.int .i64 y,.int .i64 0,.int .i64 0,.int .i64 0,.int .i64 0,.int .i64 0])
theorem zaip (R:Nat) (a:Option Addr) (n c p:Nat) (av:Option Addr) (m cv:Nat) (st:Int) (w:World) (h:Rdr w R a n c p) (hp:p≤90000) (hm:m≤10) (hst:0≤st∧st≤7) :
 Calls Tryz.prog 79 #[.pointer (some ⟨R,0,none⟩),.agg #[.int .i64 st,.slice av m cv]] w (DrawnDd R a n c p w):=by
 obtain ⟨S,hS,hS2⟩:∃ S:Nat,max st 2=(S:Int)∧2≤S∧S≤7:=⟨(max st 2).toNat,by omega,by omega⟩;obtain ⟨X,hX⟩:=qN (w.heap.size);obtain ⟨V,hV⟩:=qM ((w.alloc (.cells #[.int .i64 st,.slice av m cv] 25)).alloc (.cells #[.int .i64 0,.int .i64 0,.int .i64 0,.int .i64 0,.int .i64 0,.int .i64 0,.int .i64 0] 82))
 have S0:At V X [.int .i64 st,.slice av m cv]:=by rw [hV];exact (At.new _ _ _ hX.symm rfl).alloc _
 have F0:At V (X+1) [.int .i64 0,.int .i64 0,.int .i64 0,.int .i64 0,.int .i64 0,.int .i64 0,.int .i64 0]:=by rw [hV];exact At.new _ _ _ (by simp [hX]) rfl
 have bV:Below w.heap.size w V:=by rw [hV];exact qBl
 have hRX:R<X:=by have:=h.lt;omega
 have hcode:∀ b off,0<n→a=some ⟨b,off,none⟩→b<X:=fun b off h0 e=>by
  obtain ⟨b',off',e',hlt,_⟩:=h.bytes h0;rw [e] at e'
  cases e'
  omega
 have u:Upto X R w V:=by rw [← hX];exact Upto.of bV
 replace h:=h.below bV
 go_enter Tryz.func79,Tryz.ntmps79
 go_upto_region 1 with fail;rw [← hV];clear hV bV;obtain ⟨s,s0,s1,sf⟩:=id S0.facts2;have hXR:X≠R:=qO;have hXV:=F0.lt;have hRV:R<V.heap.size:=qO;have neVa:V.heap.size≠R:=qO;have neVb:V.heap.size+1≠R:=qO
 have hcV:∀ b off,0<n→a=some ⟨b,off,none⟩→b<V.heap.size:=fun b off h0 e=>by have:=hcode b off h0 e;omega
 have hXV':X<V.heap.size:=qO;have hmi:IntKind.i64.wrap ((m:Int)+1)=(m:Int)+1:=IntWalk.i64_in _ qO
 go_cut [5] (fun p5 wx=>∃ (kd ix:Int) (Y:Nat),p5=.pointer (some ⟨Y,0,none⟩)∧(0≤kd∧kd≤11)∧(0≤ix∧ix≤10)∧V.heap.size≤Y∧At wx Y [.int .i64 kd,.int .i64 ix,.int .i64 0,.int .i64 0,.int .i64 0,.int .i64 0,.int .i64 0]∧Rdr wx R a n c (p+3)∧Upto V.heap.size R V wx)
 case first =>
  have hcV2:=Lib.hid hcV;have hs1:=Lib.hid s1;clear hcV hcode u F0 hS hS2 hst hX hRX sf s0 s neVa neVb
  refine zan4 (J:=fun b A w'=>∃ x5 x6 x7 x8 x9 x10 x11 x12 x13 x14 x15 x16 x17 x18 x19 x20 x21 x22:Value,A=⟨#[.pointer (some ⟨R,0,none⟩),.agg #[.int .i64 st,.slice av m cv],undef,.pointer (some ⟨X,0,none⟩),.pointer (some ⟨X+1,0,none⟩),x5,x6,x7,x8,x9,x10,x11,x12,x13,x14,x15,x16,x17,x18,x19,x20,x21,x22,undef,undef,undef,undef,undef,undef,undef,undef,undef,undef,undef,undef,undef,undef,undef,undef,undef,undef,undef,undef,undef,undef,undef,undef,undef,undef,undef,undef,undef],[]⟩∧DdJ V R X a n c p av m cv b x5 x6 x7 x8 x9 x10 x11 x12 x13 x14 x15 x16 x17 x18 x19 x20 x21 x22 w') (by kernel_rfl) ?_ ?_ ?_
  · refine ⟨undef,undef,undef,undef,undef,undef,undef,undef,undef,undef,undef,undef,undef,undef,undef,undef,undef,undef,rfl,?_⟩
    exact ⟨(Upto.refl _ _ _).drew',⟨p,by simp,h.below (by exact qBl)⟩,(fun h=>by cases h),(fun h=>by cases h),(fun h=>by cases h),(fun h=>by cases h),(fun h=>by cases h),(fun h=>by cases h),(fun h=>by cases h),(fun h=>by cases h),(fun h=>by cases h),(fun h=>by cases h),(fun h=>by cases h),(fun h=>by cases h),(fun h=>by cases h),(fun h=>by cases h),(fun h=>by cases h),(fun h=>by cases h),(fun h=>by cases h),(fun h=>by cases h),(fun h=>by cases h),(fun h=>by cases h)⟩
  · intro i o ho b A W hJ hf hall
    obtain ⟨x5,x6,x7,x8,x9,x10,x11,x12,x13,x14,x15,x16,x17,x18,x19,x20,x21,x22,rfl,J⟩:=hJ
    have hi:i<19:=by
     rcases Nat.lt_or_ge i 19 with h|h
     · exact h
     · rw [Array.getElem?_eq_none h] at ho;cases ho
    have h18:i≠18→b 18=false:=fun hne=>by
     cases e:b 18 with
     | false=>rfl
     | true=>have:=J.fin e i qO;rw [hf] at this;cases this
    have hh:∀ k,k=i→b k=false:=fun k e=>by rw [e];exact hf
    rcases (by omega:i=0∨i=1∨i=2∨i=3∨i=4∨i=5∨i=6∨i=7∨i=8∨i=9∨i=10∨i=11∨i=12∨i=13∨i=14∨i=15∨i=16∨i=17∨i=18) with rfl|rfl|rfl|rfl|rfl|rfl|rfl|rfl|rfl|rfl|rfl|rfl|rfl|rfl|rfl|rfl|rfl|rfl|rfl
    · obtain rfl:=Option.some.inj ho
      have e18:=h18 (by decide);clear hall h18 hi hh
      refine wpOp_step rfl (fun K hK=>?_)
      go_simp
      refine hK _ _ ⟨_,_,_,_,_,_,_,_,_,_,_,_,_,_,_,_,_,_,rfl,?_⟩;have z:=J.up.size;obtain ⟨q,hq,hr⟩:=J.rd
      exact { J with fin:=(fun h=>by have h':b 18=true:=h;rw [e18] at h';cases h'),up:=Upto.alloc' J.up z _,rd:=⟨q,hq,hr.below qBl⟩,a3:=(fun _=>rfl),i9:=(fun h=>by have h2:=J.a3 h;rw [hf] at h2;cases h2),arr:=(fun _=>⟨_,rfl,z,fun _=>At.new _ _ _ rfl rfl⟩),d5:=(fun h=>by obtain ⟨Y,y1,y2,y3,y4,_⟩:=J.d5 h;exact ⟨Y,y1,y2,by simp;omega,fun _=>(y4 e18).alloc _,fun h=>by have h':b 18=true:=h;rw [e18] at h';cases h'⟩) }
    · obtain rfl:=Option.some.inj ho
      have e18:=h18 (by decide);clear hall h18 hi hh
      refine wpOp_step rfl (fun K hK=>?_)
      go_simp
      refine hK _ _ ⟨_,_,_,_,_,_,_,_,_,_,_,_,_,_,_,_,_,_,rfl,?_⟩
      exact { J with fin:=(fun h=>by have h':b 18=true:=h;rw [e18] at h';cases h'),p7:=fun _=>rfl }
    · obtain rfl:=Option.some.inj ho
      have hall':=hall
      have t1:b 1=true:=by simpa using hall ⟨1,.data⟩ qP rfl
      have e18:=h18 (by decide);clear hall hall' h18 hi hh;obtain rfl:=J.p7 t1;obtain ⟨q,hq,hr⟩:=J.rd;have hfk:b 2=false:=hf
      have hq2:q+1≤p+3:=by rw [hfk] at hq;simp at hq;omega
      refine wpOp_step rfl (fun K hK=>?_)
      go_simp
      go_at_call 36
      refine (zaao _ _ _ _ _ _ _ hr qO qO).mono ?_;rintro e W2 ⟨k,rfl,hk,-,hr2,u2⟩;replace hk:=hk qO;have z:=J.up.size;have hRW:R<V.heap.size:=hRV
      try go_simp
      refine hK _ _ ⟨_,_,_,_,_,_,_,_,_,_,_,_,_,_,_,_,_,_,rfl,?_⟩
      exact { J with fin:=(fun h=>by have h':b 18=true:=h;rw [e18] at h';cases h'),up:=Upto.next J.up u2,rd:=⟨q+1,by rw [hfk] at hq;simp at hq ⊢;omega,hr2⟩,arr:=(fun h=>by obtain ⟨N,y1,y2,y3⟩:=J.arr h;exact ⟨N,y1,y2,fun h4=>(y3 h4).upto (u2 (N+1)) qO qO⟩),k8:=(fun _=>⟨k,by omega,rfl⟩),d5:=(fun h=>by obtain ⟨Y,y1,y2,y3,y4,_⟩:=J.d5 h;exact ⟨Y,y1,y2,Nat.lt_of_lt_of_le y3 (u2 0).size,fun _=>(y4 e18).upto (u2 (Y+1)) qO qO,fun h=>by have h':b 18=true:=h;rw [e18] at h';cases h'⟩) }
    · obtain rfl:=Option.some.inj ho
      have hall':=hall
      have t0:b 0=true:=by simpa using hall ⟨0,.data⟩ qP rfl
      have t2:b 2=true:=by simpa using hall ⟨2,.data⟩ qP rfl
      have e18:=h18 (by decide);clear hall hall' h18 hi hh;obtain ⟨N,rfl,hN,-⟩:=J.arr t0;obtain ⟨k,hk,rfl⟩:=J.k8 t2;have hk1:(k:Int)<8:=qO;have hk0:(0:Int)≤(k:Int):=qO
      refine wpOp_step rfl (fun K hK=>?_)
      go_simp
      refine hK _ _ ⟨_,_,_,_,_,_,_,_,_,_,_,_,_,_,_,_,_,_,rfl,?_⟩
      exact { J with fin:=(fun h=>by have h':b 18=true:=h;rw [e18] at h';cases h'),i9:=fun _=>⟨N,k,hk,rfl,by simp [Addr.add]⟩,a3:=fun _=>t0 }
    · obtain rfl:=Option.some.inj ho
      have hall':=hall
      have t3:b 3=true:=by simpa using hall ⟨3,.data⟩ qP rfl
      have e18:=h18 (by decide);clear hall hall' h18 hi hh;have hf4:b 4=false:=hf;obtain ⟨N,k,hk,rfl,rfl⟩:=J.i9 t3;obtain ⟨N2,e2,hN,hA⟩:=J.arr (J.a3 t3)
      cases e2
      obtain ⟨z,z0,z5,hz⟩:=zasy k hk;have hc:=(hA hf4).c k _ hz
      refine wpOp_step rfl (fun K hK=>?_)
      go_simp
      refine hK _ _ ⟨_,_,_,_,_,_,_,_,_,_,_,_,_,_,_,_,_,_,rfl,?_⟩
      exact { J with fin:=(fun h=>by have h':b 18=true:=h;rw [e18] at h';cases h'),l10:=(fun _=>⟨z,⟨z0,z5⟩,rfl⟩),arr:=(fun h=>by obtain ⟨N,y1,y2,_⟩:=J.arr h;exact ⟨N,y1,y2,fun h=>by cases h⟩) }
    · obtain rfl:=Option.some.inj ho
      have e18:=h18 (by decide);clear hall h18 hi hh
      refine wpOp_step rfl (fun K hK=>?_)
      go_simp
      refine hK _ _ ⟨_,_,_,_,_,_,_,_,_,_,_,_,_,_,_,_,_,_,rfl,?_⟩
      exact { J with fin:=(fun h=>by have h':b 18=true:=h;rw [e18] at h';cases h'),p11:=fun _=>rfl }
    · obtain rfl:=Option.some.inj ho
      have hall':=hall
      have t5:b 5=true:=by simpa using hall ⟨5,.data⟩ qP rfl
      have e18:=h18 (by decide);clear hall hall' h18 hi hh;obtain rfl:=J.p11 t5;obtain ⟨q,hq,hr⟩:=J.rd;have hfk:b 6=false:=hf
      have hq2:q+1≤p+3:=by rw [hfk] at hq;simp at hq;omega
      refine wpOp_step rfl (fun K hK=>?_)
      go_simp
      go_at_call 36
      refine (zaao _ _ _ _ _ _ _ hr qO qO).mono ?_;rintro e W2 ⟨k,rfl,hk,-,hr2,u2⟩;replace hk:=hk qO;have z:=J.up.size;have hRW:R<V.heap.size:=hRV
      try go_simp
      refine hK _ _ ⟨_,_,_,_,_,_,_,_,_,_,_,_,_,_,_,_,_,_,rfl,?_⟩
      exact { J with fin:=(fun h=>by have h':b 18=true:=h;rw [e18] at h';cases h'),up:=Upto.next J.up u2,rd:=⟨q+1,by rw [hfk] at hq;simp at hq ⊢;omega,hr2⟩,arr:=(fun h=>by obtain ⟨N,y1,y2,y3⟩:=J.arr h;exact ⟨N,y1,y2,fun h4=>(y3 h4).upto (u2 (N+1)) qO qO⟩),k12:=(fun _=>⟨k,by omega,rfl⟩),d5:=(fun h=>by obtain ⟨Y,y1,y2,y3,y4,_⟩:=J.d5 h;exact ⟨Y,y1,y2,Nat.lt_of_lt_of_le y3 (u2 0).size,fun _=>(y4 e18).upto (u2 (Y+1)) qO qO,fun h=>by have h':b 18=true:=h;rw [e18] at h';cases h'⟩) }
    · obtain rfl:=Option.some.inj ho
      have hall':=hall
      have t6:b 6=true:=by simpa using hall ⟨6,.data⟩ qP rfl
      have e18:=h18 (by decide);clear hall hall' h18 hi hh;obtain ⟨k,hk,rfl⟩:=J.k12 t6;obtain ⟨q,hq,hq2⟩:=quo59 k qO;have hw0:IntKind.i64.wrap (q:Int)=q:=IntWalk.i64_in _ qO
      refine wpOp_step rfl (fun K hK=>?_)
      go_simp
      refine hK _ _ ⟨_,_,_,_,_,_,_,_,_,_,_,_,_,_,_,_,_,_,rfl,?_⟩
      exact { J with fin:=(fun h=>by have h':b 18=true:=h;rw [e18] at h';cases h'),q13:=fun _=>⟨q,hq2,rfl⟩ }
    · obtain rfl:=Option.some.inj ho
      have hall':=hall
      have t7:b 7=true:=by simpa using hall ⟨7,.data⟩ qP rfl
      have e18:=h18 (by decide);clear hall hall' h18 hi hh;obtain ⟨q,hq,rfl⟩:=J.q13 t7;have hw0:IntKind.i64.wrap ((q:Int)*6)=q*6:=IntWalk.i64_in _ qO
      refine wpOp_step rfl (fun K hK=>?_)
      go_simp
      refine hK _ _ ⟨_,_,_,_,_,_,_,_,_,_,_,_,_,_,_,_,_,_,rfl,?_⟩
      exact { J with fin:=(fun h=>by have h':b 18=true:=h;rw [e18] at h';cases h'),m14:=fun _=>⟨(q:Int)*6,by omega,rfl⟩ }
    · obtain rfl:=Option.some.inj ho
      have hall':=hall
      have t4:b 4=true:=by simpa using hall ⟨4,.data⟩ qP rfl
      have t8:b 8=true:=by simpa using hall ⟨8,.data⟩ qP rfl
      have e18:=h18 (by decide);clear hall hall' h18 hi hh;obtain ⟨z,hz,rfl⟩:=J.l10 t4;obtain ⟨y,hy,rfl⟩:=J.m14 t8;have hw0:IntKind.i64.wrap (z+y)=z+y:=IntWalk.i64_in _ qO
      refine wpOp_step rfl (fun K hK=>?_)
      go_simp
      refine hK _ _ ⟨_,_,_,_,_,_,_,_,_,_,_,_,_,_,_,_,_,_,rfl,?_⟩
      exact { J with fin:=(fun h=>by have h':b 18=true:=h;rw [e18] at h';cases h'),s15:=fun _=>⟨z+y,by omega,rfl⟩ }
    · obtain rfl:=Option.some.inj ho
      have e18:=h18 (by decide);clear hall h18 hi hh
      refine wpOp_step rfl (fun K hK=>?_)
      go_simp
      refine hK _ _ ⟨_,_,_,_,_,_,_,_,_,_,_,_,_,_,_,_,_,_,rfl,?_⟩
      exact { J with fin:=(fun h=>by have h':b 18=true:=h;rw [e18] at h';cases h'),p16:=fun _=>rfl }
    · obtain rfl:=Option.some.inj ho
      have e18:=h18 (by decide);clear hall h18 hi hh
      refine wpOp_step rfl (fun K hK=>?_)
      go_simp
      refine hK _ _ ⟨_,_,_,_,_,_,_,_,_,_,_,_,_,_,_,_,_,_,rfl,?_⟩
      exact { J with fin:=(fun h=>by have h':b 18=true:=h;rw [e18] at h';cases h'),f17:=fun _=>rfl }
    · obtain rfl:=Option.some.inj ho
      have hall':=hall
      have t11:b 11=true:=by simpa using hall ⟨11,.data⟩ qP rfl
      have e18:=h18 (by decide);clear hall hall' h18 hi hh;obtain rfl:=J.f17 t11;have hc:W.cell? ⟨X,1,none⟩=some (.slice av m cv):=(J.up.cell hXV' hXR).trans hs1.out
      refine wpOp_step rfl (fun K hK=>?_)
      go_simp
      refine hK _ _ ⟨_,_,_,_,_,_,_,_,_,_,_,_,_,_,_,_,_,_,rfl,?_⟩
      exact { J with fin:=(fun h=>by have h':b 18=true:=h;rw [e18] at h';cases h'),l18:=fun _=>rfl }
    · obtain rfl:=Option.some.inj ho
      have hall':=hall
      have t12:b 12=true:=by simpa using hall ⟨12,.data⟩ qP rfl
      have e18:=h18 (by decide);clear hall hall' h18 hi hh;obtain rfl:=J.l18 t12
      refine wpOp_step rfl (fun K hK=>?_)
      go_simp
      refine hK _ _ ⟨_,_,_,_,_,_,_,_,_,_,_,_,_,_,_,_,_,_,rfl,?_⟩
      exact { J with fin:=(fun h=>by have h':b 18=true:=h;rw [e18] at h';cases h'),n19:=fun _=>rfl }
    · obtain rfl:=Option.some.inj ho
      have hall':=hall
      have t13:b 13=true:=by simpa using hall ⟨13,.data⟩ qP rfl
      have e18:=h18 (by decide);clear hall hall' h18 hi hh;obtain rfl:=J.n19 t13
      refine wpOp_step rfl (fun K hK=>?_)
      go_simp
      refine hK _ _ ⟨_,_,_,_,_,_,_,_,_,_,_,_,_,_,_,_,_,_,rfl,?_⟩
      exact { J with fin:=(fun h=>by have h':b 18=true:=h;rw [e18] at h';cases h'),n20:=fun _=>rfl }
    · obtain rfl:=Option.some.inj ho
      have hall':=hall
      have t10:b 10=true:=by simpa using hall ⟨10,.data⟩ qP rfl
      have t14:b 14=true:=by simpa using hall ⟨14,.data⟩ qP rfl
      have e18:=h18 (by decide);clear hall hall' h18 hi hh;obtain rfl:=J.p16 t10;obtain rfl:=J.n20 t14;obtain ⟨q,hq,hr⟩:=J.rd;have hfk:b 15=false:=hf
      have hq2:q+1≤p+3:=by rw [hfk] at hq;simp at hq;omega
      refine wpOp_step rfl (fun K hK=>?_)
      go_simp
      go_at_call 36
      refine (zaao _ _ _ _ _ _ _ hr qO qO).mono ?_;rintro e W2 ⟨k,rfl,hk,-,hr2,u2⟩;replace hk:=hk qO;have z:=J.up.size;have hRW:R<V.heap.size:=hRV
      try go_simp
      refine hK _ _ ⟨_,_,_,_,_,_,_,_,_,_,_,_,_,_,_,_,_,_,rfl,?_⟩
      exact { J with fin:=(fun h=>by have h':b 18=true:=h;rw [e18] at h';cases h'),up:=Upto.next J.up u2,rd:=⟨q+1,by rw [hfk] at hq;simp at hq ⊢;omega,hr2⟩,arr:=(fun h=>by obtain ⟨N,y1,y2,y3⟩:=J.arr h;exact ⟨N,y1,y2,fun h4=>(y3 h4).upto (u2 (N+1)) qO qO⟩),k21:=(fun _=>⟨k,by omega,rfl⟩),d5:=(fun h=>by obtain ⟨Y,y1,y2,y3,y4,_⟩:=J.d5 h;exact ⟨Y,y1,y2,Nat.lt_of_lt_of_le y3 (u2 0).size,fun _=>(y4 e18).upto (u2 (Y+1)) qO qO,fun h=>by have h':b 18=true:=h;rw [e18] at h';cases h'⟩) }
    · obtain rfl:=Option.some.inj ho
      have hall':=hall
      have t9:b 9=true:=by simpa using hall ⟨9,.data⟩ qP rfl
      have t15:b 15=true:=by simpa using hall ⟨15,.data⟩ qP rfl
      have e18:=h18 (by decide);clear hall hall' h18 hi hh;obtain ⟨z,hz,rfl⟩:=J.s15 t9;obtain ⟨y,hy,rfl⟩:=J.k21 t15
      refine wpOp_step rfl (fun K hK=>?_)
      go_simp
      refine hK _ _ ⟨_,_,_,_,_,_,_,_,_,_,_,_,_,_,_,_,_,_,rfl,?_⟩
      exact { J with fin:=(fun h=>by have h':b 18=true:=h;rw [e18] at h';cases h'),b22:=fun _=>⟨z,(y:Int),hz,by omega,rfl⟩ }
    · obtain rfl:=Option.some.inj ho
      have e18:=h18 (by decide);clear hall h18 hi hh
      refine wpOp_step rfl (fun K hK=>?_)
      go_simp
      refine hK _ _ ⟨_,_,_,_,_,_,_,_,_,_,_,_,_,_,_,_,_,_,rfl,?_⟩;have z:=J.up.size;obtain ⟨q,hq,hr⟩:=J.rd
      exact { J with fin:=(fun h=>by have h':b 18=true:=h;rw [e18] at h';cases h'),up:=Upto.alloc' J.up z _,rd:=⟨q,hq,hr.below qBl⟩,arr:=(fun h=>by obtain ⟨N,y1,y2,y3⟩:=J.arr h;exact ⟨N,y1,y2,fun h4=>(y3 h4).alloc _⟩),d5:=(fun _=>⟨_,rfl,z,by simp,fun _=>At.new _ _ _ rfl rfl,fun h=>by have h':b 18=true:=h;rw [e18] at h';cases h'⟩) }
    · obtain rfl:=Option.some.inj ho
      have hf18:b 18=false:=hf;have t0:b 0=true:=hall ⟨0,.phase⟩ qP rfl;have t1:b 1=true:=hall ⟨1,.phase⟩ qP rfl;have t2:b 2=true:=hall ⟨2,.phase⟩ qP rfl;have t3:b 3=true:=hall ⟨3,.phase⟩ qP rfl;have t4:b 4=true:=hall ⟨4,.phase⟩ qP rfl;have t5:b 5=true:=hall ⟨5,.phase⟩ qP rfl;have t6:b 6=true:=hall ⟨6,.phase⟩ qP rfl;have t7:b 7=true:=hall ⟨7,.phase⟩ qP rfl;have t8:b 8=true:=hall ⟨8,.phase⟩ qP rfl;have t9:b 9=true:=hall ⟨9,.phase⟩ qP rfl;have t10:b 10=true:=hall ⟨10,.phase⟩ qP rfl;have t11:b 11=true:=hall ⟨11,.phase⟩ qP rfl;have t12:b 12=true:=hall ⟨12,.phase⟩ qP rfl;have t13:b 13=true:=hall ⟨13,.phase⟩ qP rfl;have t14:b 14=true:=hall ⟨14,.phase⟩ qP rfl;have t15:b 15=true:=hall ⟨15,.phase⟩ qP rfl;have t16:b 16=true:=hall ⟨16,.phase⟩ qP rfl;have t17:b 17=true:=hall ⟨17,.phase⟩ qP rfl;clear hall h18 hi hh;obtain ⟨z,y,hz,hy,rfl⟩:=J.b22 t16;obtain ⟨Y,rfl,y1,y2,y3,-⟩:=J.d5 t17;have A:=y3 hf18;obtain ⟨f,f0,f1,f2,f3,f4,f5,f6,ff⟩:=id A.facts7
      refine wpOp_step rfl (fun K hK=>?_)
      go_simp
      refine hK _ _ ⟨_,_,_,_,_,_,_,_,_,_,_,_,_,_,_,_,_,_,rfl,?_⟩;obtain ⟨q,hq,hr⟩:=J.rd;have hB:Below V.heap.size W (((((((W.setCell ⟨Y,0,none⟩ (.int .i64 z)).setCell ⟨Y,1,none⟩ (.int .i64 y)).setCell ⟨Y,2,none⟩ (.int .i64 0)).setCell ⟨Y,3,none⟩ (.int .i64 0)).setCell ⟨Y,4,none⟩ (.int .i64 0)).setCell ⟨Y,5,none⟩ (.int .i64 0)).setCell ⟨Y,6,none⟩ (.int .i64 0)):=qHb
      exact { J with fin:=(fun _ j hj=>by have:j=0∨j=1∨j=2∨j=3∨j=4∨j=5∨j=6∨j=7∨j=8∨j=9∨j=10∨j=11∨j=12∨j=13∨j=14∨j=15∨j=16∨j=17:= qO;rcases this with rfl|rfl|rfl|rfl|rfl|rfl|rfl|rfl|rfl|rfl|rfl|rfl|rfl|rfl|rfl|rfl|rfl|rfl <;> assumption),up:=J.up.trans (Upto.of hB),rd:=⟨q,hq,Rdr.keep hr hRV hcV2.out hB⟩,arr:=(fun h=>by obtain ⟨N,z1,z2,_⟩:=J.arr h;exact ⟨N,z1,z2,fun h4=>by have h5:b 4=false:=h4;rw [t4] at h5;cases h5⟩),d5:=(fun _=>⟨Y,rfl,y1,by simpa [World.setCell] using y2,(fun h=>by cases h),fun _=>⟨z,y,hz,hy,A.sets7 _ _ _ _ _ _ _⟩⟩) }
  · intro b A W hJ hn
    obtain ⟨x5,x6,x7,x8,x9,x10,x11,x12,x13,x14,x15,x16,x17,x18,x19,x20,x21,x22,rfl,J⟩:=hJ
    have t0:b 0=true:=by have:=hn 0 _ rfl;simpa using this
    have t1:b 1=true:=by have:=hn 1 _ rfl;simpa using this
    have t2:b 2=true:=by have:=hn 2 _ rfl;simpa [t1] using this
    have t3:b 3=true:=by have:=hn 3 _ rfl;simpa [t0,t2] using this
    have t4:b 4=true:=by have:=hn 4 _ rfl;simpa [t3] using this
    have t5:b 5=true:=by have:=hn 5 _ rfl;simpa using this
    have t6:b 6=true:=by have:=hn 6 _ rfl;simpa [t5,t2] using this
    have t7:b 7=true:=by have:=hn 7 _ rfl;simpa [t6] using this
    have t8:b 8=true:=by have:=hn 8 _ rfl;simpa [t7] using this
    have t9:b 9=true:=by have:=hn 9 _ rfl;simpa [t4,t8] using this
    have t10:b 10=true:=by have:=hn 10 _ rfl;simpa using this
    have t11:b 11=true:=by have:=hn 11 _ rfl;simpa using this
    have t12:b 12=true:=by have:=hn 12 _ rfl;simpa [t11] using this
    have t13:b 13=true:=by have:=hn 13 _ rfl;simpa [t12] using this
    have t14:b 14=true:=by have:=hn 14 _ rfl;simpa [t13] using this
    have t15:b 15=true:=by have:=hn 15 _ rfl;simpa [t10,t14,t6] using this
    have t16:b 16=true:=by have:=hn 16 _ rfl;simpa [t9,t15] using this
    have t17:b 17=true:=by have:=hn 17 _ rfl;simpa using this
    have t18:b 18=true:=by have:=hn 18 _ rfl;simpa [t0,t1,t2,t3,t4,t5,t6,t7,t8,t9,t10,t11,t12,t13,t14,t15,t16,t17] using this
    obtain ⟨Y,rfl,hY,-,-,hA⟩:=J.d5 t17;obtain ⟨z,y,hz,hy,A⟩:=hA t18;obtain ⟨q,hq,hr⟩:=J.rd
    have hq3:q=p+3:=by rw [t2,t6,t15] at hq;simpa using hq
    rw [hq3] at hr;have up:=J.up;clear J hn hq hq3 t0 t1 t2 t3 t4 t5 t6 t7 t8 t9 t10 t11 t12 t13 t14 t15 t16 t17 t18;go_wp2_with fail
    go_meet
    exact ⟨z,y,Y,rfl,hz,hy,hY,A,hr,up⟩
 case rest =>
  obtain ⟨kd,ix,Y,rfl,hkd,hix,hYV,A,h3,u3⟩:=hcut;have S1:=S0.upto u3 hXV' hXR;have F1:=F0.upto u3 hXV qO
  have u4:Upto w.heap.size R w wc:=by rw [hX];exact u.trans (u3.mono qO)
  have hYX:X+1<Y:=qO;clear u3 S0 F0 h u s s0 s1 sf hmi;obtain ⟨s,s0,s1,-⟩:=id S1.facts2;obtain ⟨z,z0,z1,z2,z3,z4,z5,z6,zf⟩:=id A.facts7
  by_cases hput:kd=0∨kd=3
  · rcases hput with rfl|rfl
    · go_wp2_with fail
      refine (zadv R a n c (p+3) S 20 _ h3 qO qO qO).mono ?_;rintro e w3 ⟨⟨g1,g2,g3,g4,g5⟩,q3,rfl,-,-,-,-,-,-,hq3,h4,u5⟩;have A4:=A.upto u5 z qO;have F4:=F1.upto u5 F1.lt qO
      have FIN:=Lib.hid (show ∀ W',Below X w3 W'→Rdr W' R a n c q3∧Upto w.heap.size R w W' from fun W' hb=>⟨Rdr.keep h4 hRX (fun b off h0 e=>hcode b off h0 e) hb,(u4.trans (u5.mono u4.size)).trans (Upto.of (by rw [hX];exact hb))⟩)
      clear z z0 z1 z2 z3 z4 z5 z6 zf s s0 s1 A F1 S1 u5 h3 h4 u4;obtain ⟨z,z0,z1,z2,z3,z4,z5,z6,zf⟩:=id A4.facts7;obtain ⟨r,r0,r1,r2,r3,r4,r5,r6,rf⟩:=id F4.facts7;go_wp2_with fail;refine bodyPost_ret (v:=.agg #[.int .i64 0,.int .i64 ix,.int .i64 g1,.int .i64 g2,.int .i64 g3,.int .i64 g4,.int .i64 g5]) (by simp [results,Tryz.results79,go_sem,r,r0,r1,r2,r3,r4,r5,r6]) rfl ?_
      exact ⟨⟨0,ix,⟨g1,g2,g3,g4,g5⟩⟩,_,rfl,by simp only;omega,by simp only;omega,by omega,(FIN.out _ qHb).1,(FIN.out _ qHb).2⟩
    · go_wp2_with fail
      refine (zadv R a n c (p+3) S 20 _ h3 qO qO qO).mono ?_;rintro e w3 ⟨⟨g1,g2,g3,g4,g5⟩,q3,rfl,-,-,-,-,-,-,hq3,h4,u5⟩;have A4:=A.upto u5 z qO;have F4:=F1.upto u5 F1.lt qO
      have FIN:=Lib.hid (show ∀ W',Below X w3 W'→Rdr W' R a n c q3∧Upto w.heap.size R w W' from fun W' hb=>⟨Rdr.keep h4 hRX (fun b off h0 e=>hcode b off h0 e) hb,(u4.trans (u5.mono u4.size)).trans (Upto.of (by rw [hX];exact hb))⟩)
      clear z z0 z1 z2 z3 z4 z5 z6 zf s s0 s1 A F1 S1 u5 h3 h4 u4;obtain ⟨z,z0,z1,z2,z3,z4,z5,z6,zf⟩:=id A4.facts7;obtain ⟨r,r0,r1,r2,r3,r4,r5,r6,rf⟩:=id F4.facts7;go_wp2_with fail;refine bodyPost_ret (v:=.agg #[.int .i64 3,.int .i64 ix,.int .i64 g1,.int .i64 g2,.int .i64 g3,.int .i64 g4,.int .i64 g5]) (by simp [results,Tryz.results79,go_sem,r,r0,r1,r2,r3,r4,r5,r6]) rfl ?_
      exact ⟨⟨3,ix,⟨g1,g2,g3,g4,g5⟩⟩,_,rfl,by simp only;omega,by simp only;omega,by omega,(FIN.out _ qHb).1,(FIN.out _ qHb).2⟩
  · by_cases hml:kd=4∨kd=5
    · rcases hml with rfl|rfl
      · go_wp2_with fail
        refine (zaao _ _ _ _ _ _ _ h3 qO qO).mono ?_;rintro e w3 ⟨k9,rfl,-,-,h4,u5⟩;have A4:=A.upto (u5 (Y+1)) qO qO;have F4:=F1.upto (u5 (Y+1)) qO qO
        have FIN:=Lib.hid (show ∀ W',Below X w3 W'→Rdr W' R a n c (p+4)∧Upto w.heap.size R w W' from fun W' hb=>⟨Rdr.keep h4 hRX (fun b off h0 e=>hcode b off h0 e) hb,(u4.trans (u5 _)).trans (Upto.of (by rw [hX];exact hb))⟩)
        clear z z0 z1 z2 z3 z4 z5 z6 zf s s0 s1 A F1 S1 u5 h3 h4 u4;obtain ⟨z,z0,z1,z2,z3,z4,z5,z6,zf⟩:=id A4.facts7;obtain ⟨r,r0,r1,r2,r3,r4,r5,r6,rf⟩:=id F4.facts7
        by_cases hk0:k9=0
        · subst hk0
          go_wp2_with fail;refine bodyPost_ret (v:=.agg #[.int .i64 4,.int .i64 ix,.int .i64 0,.int .i64 0,.int .i64 0,.int .i64 0,.int .i64 0]) (by simp [results,Tryz.results79,go_sem,r,r0,r1,r2,r3,r4,r5,r6]) rfl ?_
          exact ⟨⟨4,ix,⟨0,0,0,0,0⟩⟩,_,rfl,by simp only;omega,by simp only;omega,by omega,(FIN.out _ qHb).1,(FIN.out _ qHb).2⟩
        · have hk1:(0:Int)<(k9:Int):=by omega
          go_wp2_with fail;refine bodyPost_ret (v:=.agg #[.int .i64 4,.int .i64 0,.int .i64 0,.int .i64 0,.int .i64 0,.int .i64 0,.int .i64 0]) (by simp [results,Tryz.results79,go_sem,r,r0,r1,r2,r3,r4,r5,r6]) rfl ?_
          exact ⟨⟨4,0,⟨0,0,0,0,0⟩⟩,_,rfl,by simp only;omega,by simp only;omega,by omega,(FIN.out _ qHb).1,(FIN.out _ qHb).2⟩
      · go_wp2_with fail
        refine (zaao _ _ _ _ _ _ _ h3 qO qO).mono ?_;rintro e w3 ⟨k9,rfl,-,-,h4,u5⟩;have A4:=A.upto (u5 (Y+1)) qO qO;have F4:=F1.upto (u5 (Y+1)) qO qO
        have FIN:=Lib.hid (show ∀ W',Below X w3 W'→Rdr W' R a n c (p+4)∧Upto w.heap.size R w W' from fun W' hb=>⟨Rdr.keep h4 hRX (fun b off h0 e=>hcode b off h0 e) hb,(u4.trans (u5 _)).trans (Upto.of (by rw [hX];exact hb))⟩)
        clear z z0 z1 z2 z3 z4 z5 z6 zf s s0 s1 A F1 S1 u5 h3 h4 u4;obtain ⟨z,z0,z1,z2,z3,z4,z5,z6,zf⟩:=id A4.facts7;obtain ⟨r,r0,r1,r2,r3,r4,r5,r6,rf⟩:=id F4.facts7
        by_cases hk0:k9=0
        · subst hk0
          go_wp2_with fail;refine bodyPost_ret (v:=.agg #[.int .i64 5,.int .i64 ix,.int .i64 0,.int .i64 0,.int .i64 0,.int .i64 0,.int .i64 0]) (by simp [results,Tryz.results79,go_sem,r,r0,r1,r2,r3,r4,r5,r6]) rfl ?_
          exact ⟨⟨5,ix,⟨0,0,0,0,0⟩⟩,_,rfl,by simp only;omega,by simp only;omega,by omega,(FIN.out _ qHb).1,(FIN.out _ qHb).2⟩
        · have hk1:(0:Int)<(k9:Int):=by omega
          go_wp2_with fail;refine bodyPost_ret (v:=.agg #[.int .i64 5,.int .i64 0,.int .i64 0,.int .i64 0,.int .i64 0,.int .i64 0,.int .i64 0]) (by simp [results,Tryz.results79,go_sem,r,r0,r1,r2,r3,r4,r5,r6]) rfl ?_
          exact ⟨⟨5,0,⟨0,0,0,0,0⟩⟩,_,rfl,by simp only;omega,by simp only;omega,by omega,(FIN.out _ qHb).1,(FIN.out _ qHb).2⟩
    · have e0:(kd == 0)=false:=by simp;omega
      have e3:(kd == 3)=false:=by simp;omega
      have e4:(kd == 4)=false:=by simp;omega
      have e5:(kd == 5)=false:=by simp;omega
      have FIN:=Lib.hid (show ∀ W',Below X wc W'→Rdr W' R a n c (p+3)∧Upto w.heap.size R w W' from fun W' hb=>⟨Rdr.keep h3 hRX (fun b off h0 e=>hcode b off h0 e) hb,u4.trans (Upto.of (by rw [hX];exact hb))⟩)
      obtain ⟨r,r0,r1,r2,r3,r4,r5,r6,rf⟩:=id F1.facts7;clear s s0 s1 S1 h3 u4 hput hml;go_wp2_with fail;refine bodyPost_ret (v:=.agg #[.int .i64 kd,.int .i64 ix,.int .i64 0,.int .i64 0,.int .i64 0,.int .i64 0,.int .i64 0]) (by simp [results,Tryz.results79,go_sem,r,r0,r1,r2,r3,r4,r5,r6]) rfl ?_
      exact ⟨⟨kd,ix,⟨0,0,0,0,0⟩⟩,_,rfl,by simp only;omega,by simp only;omega,by omega,(FIN.out _ qHb).1,(FIN.out _ qHb).2⟩
end Go.Proofs.YthfoloefkfadlaaGreatDoor
