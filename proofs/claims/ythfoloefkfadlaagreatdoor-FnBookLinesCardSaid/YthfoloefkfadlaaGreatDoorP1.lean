/- Plain law of determinants: expansion along the first row over a list of columns, exchange and addition of columns, and that it is greater than 0 where every place leads to the ground. No program. -/
import Derived.Test.YthfoloefkfadlaaGreatDoorK1
import Derived.Test.YthfoloefkfadlaaGreatDoorT2
import Derived.Test.YthfoloefkfadlaaGreatDoorK7
import Derived.Test.YthfoloefkfadlaaGreatDoorT1
import Derived.Test.YthfoloefkfadlaaGreatDoorF1
set_option linter.unusedSimpArgs false
set_option linter.unusedVariables false
namespace Go.Proofs.YthfoloefkfadlaaGreatDoor
open Go Go.RowKit
def exC (r:Nat→Int) (D:List Nat→Int):List Nat→List Nat→Int
 | _,[]=>0
 | pre,c :: cs=>r c*D (pre ++ cs) - exC r D (pre ++ [c]) cs
def detC:List (Nat→Int)→List Nat→Int
 | [],[]=>1
 | [],_ :: _=>0
 | r :: rs,cs=>exC r (fun l=>detC rs l) [] cs
theorem zadj (l:List Nat) (h:l≠[]):detC [] l=0:=by
 cases l with
 | nil=>exact absurd rfl h
 | cons _ _=>rfl
theorem zabm (r:Nat→Int) (rs:List (Nat→Int)) (cs:List Nat):detC (r :: rs) cs=exC r (detC rs) [] cs:=rfl
theorem zafd {r:Nat→Int} {D:List Nat→Int} (hD:∀ p a b q,D (p ++ a :: b :: q) = -D (p ++ b :: a :: q)):∀ (ys p:List Nat) (a b:Nat) (q:List Nat),exC r D (p ++ a :: b :: q) ys = -exC r D (p ++ b :: a :: q) ys
 | [],_,_,_,_=>rfl
 | y :: ys,p,a,b,q=>by
   have h1:=hD p a b (q ++ ys);have h2:=zafd (r:=r) hD ys p a b (q ++ [y]);simp only [exC,List.append_assoc,List.cons_append] at h1 h2 ⊢;rw [h1,h2,Int.mul_neg]
   omega
theorem zaoy {r:Nat→Int} {D:List Nat→Int} (hD:∀ p a b q,D (p ++ a :: b :: q) = -D (p ++ b :: a :: q)):∀ (xs pre:List Nat) (a b:Nat) (ys:List Nat),exC r D pre (xs ++ a :: b :: ys) = -exC r D pre (xs ++ b :: a :: ys)
 | [],pre,a,b,ys=>by
   have h:=zafd (r:=r) hD ys pre a b [];simp only [List.nil_append,exC,List.append_assoc,List.cons_append] at h ⊢;rw [h]
   omega
 | x :: xs,pre,a,b,ys=>by
   have h1:=hD (pre ++ xs) a b ys;have h2:=zaoy (r:=r) hD xs (pre ++ [x]) a b ys;simp only [exC,List.append_assoc,List.cons_append] at h1 h2 ⊢;rw [h1,h2,Int.mul_neg]
   omega
theorem zami:∀ (rs:List (Nat→Int)) (p:List Nat) (a b:Nat) (q:List Nat),detC rs (p ++ a :: b :: q) = -detC rs (p ++ b :: a :: q)
 | [],p,a,b,q=>by rw [zadj _ qP,zadj _ qP];rfl
 | r :: rs,p,a,b,q=>by
   rw [zabm,zabm]
   exact zaoy (zami rs) p [] a b q
def insC (A:Nat→Int) (D:List Nat→Int) (v:Nat):List Nat→List Nat→Int
 | _,[]=>0
 | p,c :: q=>A c*D (p ++ v :: q)+insC A D v (p ++ [c]) q
theorem zar4 {A:Nat→Int} {D:List Nat→Int} (hD:∀ p a b q,D (p ++ a :: b :: q) = -D (p ++ b :: a :: q)) (v:Nat):∀ (q p:List Nat),exC A D (p ++ [v]) q=insC A D v p q
 | [],_=>rfl
 | c :: q,p=>by
   have h:=zafd (r:=A) hD q p v c [];have ih:=zar4 (A:=A) hD v q (p ++ [c]);simp only [exC,insC,List.append_assoc,List.cons_append,List.nil_append] at h ih ⊢;rw [h,ih]
   omega
theorem zar5 {r A:Nat→Int} {D:List Nat→Int}:∀ (q p:List Nat),(∀ c ∈ q,r c = -A c)→exC r D p q = -exC A D p q
 | [],_,_=>rfl
 | c :: q,p,h=>by
   simp only [exC]
   rw [zar5 q (p ++ [c]) (fun x hx=>h x (by simp [hx])),h c qP,Int.neg_mul]
   omega
theorem zahl {r r':Nat→Int} {D D':List Nat→Int} (S:Nat→Prop) (hD:∀ l,(∀ c ∈ l,S c)→D l=D' l) (hr:∀ c,S c→r c=r' c):∀ (q p:List Nat),(∀ c ∈ q,S c)→(∀ c ∈ p,S c)→exC r D p q=exC r' D' p q
 | [],_,_,_=>rfl
 | c :: q,p,h,hp=>by
   simp only [exC]
   rw [hr c (h c qP),hD (p ++ q) (fun x hx=>by
    rcases List.mem_append.1 hx with h1|h1
    · exact hp x h1
    · exact h x (by simp [h1])),zahl S hD hr q (p ++ [c]) (fun x hx=>h x (by simp [hx])) (fun x hx=>by
    rcases List.mem_append.1 hx with h1|h1
    · exact hp x h1
    · simp at h1;subst h1;exact h x qP)]
theorem zadw {α:Type} (f g:α→Nat→Int) (S:Nat→Prop):∀ (is:List α),(∀ i ∈ is,∀ c,S c→f i c=g i c)→∀ cs:List Nat,(∀ c ∈ cs,S c)→detC (is.map f) cs=detC (is.map g) cs
 | [],_,_,_=>rfl
 | i :: is,h,cs,hc=>by
   simp only [List.map_cons,zabm]
   exact zahl S (fun l hl=>zadw f g S is (fun x hx=>h x (by simp [hx])) l hl) (h i qP) cs [] hc (fun c hc=>by cases hc)
theorem zaoz {c:Nat} {p q:List Nat} (h1:c ∉ p) (h2:c ∉ q):c ∉ p ++ q:=fun e=>by
 rcases List.mem_append.1 e with e|e
 · exact h1 e
 · exact h2 e
def addCol (c v:Nat) (r:Nat→Int):Nat→Int:=fun x=>if x=c then r c+r v else r x
theorem zaiq {r r':Nat→Int} {D D':List Nat→Int} (c v:Nat) (hD:∀ p q,c ∉ p→c ∉ q→D' (p ++ c :: q)=D (p ++ c :: q)+D (p ++ v :: q)) (hr:∀ x,x≠c→r' x=r x) :
 ∀ (ys p q:List Nat),c ∉ p→c ∉ q→c ∉ ys→exC r' D' (p ++ c :: q) ys=exC r D (p ++ c :: q) ys+exC r D (p ++ v :: q) ys
 | [],_,_,_,_,_=>rfl
 | y :: ys,p,q,hp,hq,hy=>by
   have hyc:y≠c:=fun e=>hy (by simp [e])
   have hys:c ∉ ys:=fun e=>hy (by simp [e])
   have h1:=hD p (q ++ ys) hp (zaoz hq hys)
   have h2:=zaiq (r:=r) (r':=r') c v hD hr ys p (q ++ [y]) hp (fun e=>by
    rcases List.mem_append.1 e with e|e
    · exact hq e
    · simp at e;exact hyc e.symm) hys
   simp only [exC,List.append_assoc,List.cons_append] at h1 h2 ⊢;rw [h1,h2,hr y hyc,Int.mul_add]
   omega
theorem zar6 {r r':Nat→Int} {D D':List Nat→Int} (c v:Nat) (hD:∀ p q,c ∉ p→c ∉ q→D' (p ++ c :: q)=D (p ++ c :: q)+D (p ++ v :: q)) (hD0:∀ l,c ∉ l→D' l=D l) (hr:∀ x,x≠c→r' x=r x) (hrc:r' c=r c+r v) :
 ∀ (p pre q:List Nat),c ∉ pre→c ∉ p→c ∉ q→exC r' D' pre (p ++ c :: q)=exC r D pre (p ++ c :: q)+exC r D pre (p ++ v :: q)
 | [],pre,q,hpre,_,hq=>by
   have h0:=hD0 (pre ++ q) (zaoz hpre hq)
   have h1:=zaiq (r:=r) (r':=r') c v hD hr q pre [] hpre (fun e=>by cases e) hq
   simp only [exC,List.nil_append] at h1 ⊢;rw [h0,h1,hrc,Int.add_mul]
   omega
 | x :: p,pre,q,hpre,hp,hq=>by
   have hx:x≠c:=fun e=>hp (by simp [e])
   have hp':c ∉ p:=fun e=>hp (by simp [e])
   have h1:=hD (pre ++ p) q (zaoz hpre hp') hq
   have h2:=zar6 (r:=r) (r':=r') c v hD hD0 hr hrc p (pre ++ [x]) q (fun e=>by
    rcases List.mem_append.1 e with e|e
    · exact hpre e
    · simp at e;exact hx e.symm) hp' hq
   simp only [exC,List.append_assoc,List.cons_append] at h1 h2 ⊢;rw [h1,h2,hr x hx,Int.mul_add]
   omega
theorem zair (c v:Nat):∀ (rs:List (Nat→Int)),(∀ p q,c ∉ p→c ∉ q→detC (rs.map (addCol c v)) (p ++ c :: q)=detC rs (p ++ c :: q)+detC rs (p ++ v :: q))∧∀ l,c ∉ l→detC (rs.map (addCol c v)) l=detC rs l
 | []=>⟨fun p q _ _=>by rw [List.map_nil,zadj _ qP,zadj _ qP];rfl,fun _ _=>rfl⟩
 | r :: rs=>by
   obtain ⟨h1,h2⟩:=zair c v rs
   have hr:∀ x,x≠c→addCol c v r x=r x:=fun x hx=>by simp [addCol,hx]
   have hrc:addCol c v r c=r c+r v:=by simp [addCol]
   refine ⟨fun p q hp hq=>?_,fun l hl=>?_⟩
   · rw [List.map_cons,zabm,zabm,zabm]
     exact zar6 c v h1 h2 hr hrc p [] q (fun e=>by cases e) hp hq
   · rw [List.map_cons,zabm,zabm]
     exact zahl (fun x=>x≠c) (fun l hl=>h2 l fun e=>hl c e rfl) hr l [] (fun x hx e=>hl (by rw [← e];exact hx)) (fun x hx=>by cases hx)
def sumA (A:Nat→Nat→Int) (i:Nat) (vs:List Nat):Int:=(vs.map (A i)).sum
def rowL (A:Nat→Nat→Int) (G:Nat→Int) (vs:List Nat) (i:Nat):Nat→Int:=fun j=>if j=i then G i+sumA A i vs else -A i j
def lapl (A:Nat→Nat→Int) (G:Nat→Int) (vs:List Nat):Int:=detC (vs.map (rowL A G vs)) vs
def redir (A:Nat→Nat→Int) (v c:Nat):Nat→Nat→Int:=fun i j=>if i=j then 0 else if j=c then A i c+A i v else A i j
def sumC (f:Nat→Int) (q:List Nat):Int:=(q.map f).sum
theorem zafp (f:Nat→Int) (c:Nat) (q:List Nat):sumC f (c :: q)=f c+sumC f q:=by simp [sumC]
theorem zamj {A:Nat→Int} {D:List Nat→Int} {E:Nat→Int} {v:Nat} {vs:List Nat} (hE:∀ p c q,p ++ c :: q=vs→D (p ++ c :: q)+D (p ++ v :: q)=E c):∀ (q p:List Nat),p ++ q=vs→sumC A q*D vs+insC A D v p q=sumC (fun c=>A c*E c) q
 | [],_,_=>by simp [sumC,insC]
 | c :: q,p,h=>by
   have ih:=zamj (A:=A) hE q (p ++ [c]) (by simpa using h);have e:=hE p c q h;rw [h] at e;rw [zafp,zafp,insC,← ih,← e,Int.add_mul,Int.mul_add]
   omega
theorem zaci (A:Nat→Nat→Int) (i c:Nat) (q:List Nat):sumA A i (c :: q)=A i c+sumA A i q:=by simp [sumA]
theorem zakb {A:Nat→Nat→Int} {v c i:Nat} (h0:A i i=0) (hic:i≠c):∀ (q:List Nat),q.Nodup→sumA (redir A v c) i q=sumA A i q+if c ∈ q then A i v else 0
 | [],_=>by simp [sumA]
 | x :: q,h=>by
   obtain ⟨hx,hq⟩:=List.nodup_cons.1 h;rw [zaci,zaci,zakb h0 hic q hq]
   by_cases e:x=c
   · subst e
     simp only [redir,if_neg hic,if_true,List.mem_cons,true_or,if_neg hx]
     omega
   · by_cases e2:i=x
     · subst e2
       have:c ∈ i :: q↔c ∈ q:=by simp [Ne.symm e]
       simp only [redir,if_true,h0,this]
       omega
     · have:c ∈ x :: q↔c ∈ q:=by simp [Ne.symm e]
       simp only [redir,if_neg e2,if_neg e,this]
       omega
theorem zafq {A:Nat→Nat→Int} {v c:Nat} (h0:A c c=0):∀ (q:List Nat),sumA (redir A v c) c q=sumA A c q
 | []=>rfl
 | x :: q=>by
   rw [zaci,zaci,zafq h0 q]
   by_cases e:c=x
   · subst e;simp [redir,h0]
   · simp [redir,e,Ne.symm e]
theorem zaui {A:Nat→Nat→Int} {G:Nat→Int} {v:Nat} {vs:List Nat} (h0:∀ i,A i i=0) (hn:(v :: vs).Nodup) :
 lapl A G (v :: vs)=G v*lapl A (fun i=>G i+A i v) vs+sumC (fun c=>A v c*lapl (redir A v c) G vs) vs:=by
 obtain ⟨hv,hvs⟩:=List.nodup_cons.1 hn;obtain ⟨rs,hrs⟩:=qM (vs.map (rowL A G (v :: vs)))
 have e1:lapl A (fun i=>G i+A i v) vs=detC rs vs:=by
  rw [hrs]
  refine zadw _ _ (fun _=>True) vs (fun i _ c _=>?_) vs (fun _ _=>trivial)
  simp only [rowL,zaci]
  split <;> omega
 have e2:∀ p c q,p ++ c :: q=vs→detC rs (p ++ c :: q)+detC rs (p ++ v :: q)=lapl (redir A v c) G vs:=by
  intro p c q h
  have hc:c ∈ vs:=by rw [← h];simp
  have hnd:(p ++ c :: q).Nodup:=by rw [h];exact hvs
  have hp:c ∉ p∧c ∉ q:=by
   rw [List.nodup_append] at hnd;obtain ⟨_,h2,h3⟩:=hnd
   exact ⟨fun e=>h3 c e c qP rfl,(List.nodup_cons.1 h2).1⟩
  rw [← (zair c v rs).1 p q hp.1 hp.2,h,hrs,List.map_map]
  refine (zadw _ _ (fun x=>x ∈ vs) vs (fun i hi x hx=>?_) vs (fun _ h=>h)).symm
  have hiv:i≠v:=fun e=>hv (by rw [← e];exact hi)
  have hxv:x≠v:=fun e=>hv (by rw [← e];exact hx)
  show rowL (redir A v c) G vs i x=addCol c v (rowL A G (v :: vs) i) x
  unfold addCol
  by_cases exc:x=c
  · subst exc
    rw [if_pos rfl]
    by_cases eix:x=i
    · subst eix
      simp only [rowL,if_true,if_neg (Ne.symm hxv),zaci,zafq (h0 x)]
      omega
    · simp only [rowL,if_neg eix,if_neg (Ne.symm hiv),redir,if_neg (Ne.symm eix),if_true]
      omega
  · rw [if_neg exc]
    by_cases eix:x=i
    · subst eix
      simp only [rowL,if_true,zaci,zakb (h0 x) exc vs hvs,if_pos hc]
      omega
    · simp only [rowL,if_neg eix,redir,if_neg (Ne.symm eix),if_neg exc]
 have e3:lapl A G (v :: vs)=(G v+sumA A v (v :: vs))*detC rs vs+insC (A v) (detC rs) v [] vs:=by
  unfold lapl;rw [List.map_cons,← hrs,zabm,exC,List.nil_append,List.nil_append]
  have r0:rowL A G (v :: vs) v v=G v+sumA A v (v :: vs):=by simp [rowL]
  have r1:exC (rowL A G (v :: vs) v) (detC rs) [v] vs = -exC (A v) (detC rs) [v] vs:=zar5 vs [v] fun c hc=>by
   have:c≠v:=fun e=>hv (by rw [← e];exact hc)
   simp [rowL,this]
  have r2:=zar4 (A:=A v) (zami rs) v vs [];rw [List.nil_append] at r2;rw [r0,r1,r2]
  omega
 have e4:=zamj (A:=A v) (D:=detC rs) (v:=v) (E:=fun c=>lapl (redir A v c) G vs) e2 vs [] rfl
 have e5:sumA A v (v :: vs)=sumC (A v) vs:=by rw [zaci,h0 v];show 0+sumC (A v) vs=_;omega
 rw [e3,e5,e1,← e4,Int.add_mul]
 omega
theorem zaej {f:Nat→Int}:∀ (q:List Nat),(∀ c ∈ q,0≤f c)→0≤sumC f q
 | [],_=>by simp [sumC]
 | c :: q,h=>by
   rw [zafp]
   have:=zaej q fun x hx=>h x (by simp [hx])
   have:=h c qP
   omega
theorem zao0 {f:Nat→Int}:∀ (q:List Nat),(∀ c ∈ q,0≤f c)→(∃ c ∈ q,0<f c)→0<sumC f q
 | [],_,h=>by obtain ⟨c,hc,_⟩:=h;cases hc
 | c :: q,h,hp=>by
   rw [zafp];have h1:=h c qP
   by_cases h2:0<f c
   · have:=zaej q fun x hx=>h x (by simp [hx])
     omega
   · obtain ⟨x,hx,hx2⟩:=hp
     have hxq:x ∈ q:=by
      rcases List.mem_cons.1 hx with e|e
      · subst e;exact absurd hx2 h2
      · exact e
     have:=zao0 q (fun y hy=>h y (by simp [hy])) ⟨x,hxq,hx2⟩
     omega
theorem zawd:∀ (vs:List Nat) (A:Nat→Nat→Int) (G:Nat→Int),vs.Nodup→(∀ i,A i i=0)→(∀ i j,0≤A i j)→(∀ i,0≤G i) →
 0≤lapl A G vs∧((∃ rank:Nat→Nat,∀ x ∈ vs,0<G x∨∃ u ∈ vs,0<A x u∧rank u<rank x)→0<lapl A G vs):=by
 intro vs
 induction hlen:vs.length generalizing vs with
 | zero =>
   intro A G _ _ _ _;obtain rfl:=List.eq_nil_of_length_eq_zero hlen
   exact ⟨by simp [lapl,detC],fun _=>by simp [lapl,detC]⟩
 | succ n ih =>
   intro A G hn h0 hA hG
   obtain ⟨v,l,rfl⟩:∃ v l,vs=v :: l:=by cases vs with
    | nil=>cases hlen
    | cons v l=>exact ⟨v,l,rfl⟩
   obtain ⟨hv,hl⟩:=List.nodup_cons.1 hn
   have hll:l.length=n:=by simpa using hlen
   have i1:=ih l hll A (fun i=>G i+A i v) hl h0 hA (fun i=>by have:=hG i;have:=hA i v;omega)
   have hR:∀ c i j,0≤redir A v c i j:=fun c i j=>by
    have:=hA i c;have:=hA i v;have:=hA i j;unfold redir
    split
    · omega
    · split <;> omega
   have i2:=fun c=>ih l hll (redir A v c) G hl (fun i=>by simp [redir]) (hR c) hG
   rw [zaui h0 hn]
   have t1:0≤G v*lapl A (fun i=>G i+A i v) l:=Int.mul_nonneg (hG v) i1.1
   have t2:∀ c ∈ l,0≤A v c*lapl (redir A v c) G l:=fun c _=>Int.mul_nonneg (hA v c) (i2 c).1
   refine ⟨by have:=zaej l t2;omega,?_⟩
   rintro ⟨rank,hr⟩
   have key:∀ x ∈ l,0<G x∨0<A x v∨∃ u ∈ l,0<A x u∧rank u<rank x:=fun x hx=>by
    rcases hr x (by simp [hx]) with h|⟨u,hu,h1,h2⟩
    · exact .inl h
    · rcases List.mem_cons.1 hu with e|e
      · subst e;exact .inr (.inl h1)
      · exact .inr (.inr ⟨u,e,h1,h2⟩)
   by_cases hg:0<G v
   · have:0<G v*lapl A (fun i=>G i+A i v) l:=by
      refine Int.mul_pos hg (i1.2 ⟨rank,fun x hx=>?_⟩)
      have:=hG x;have:=hA x v
      rcases key x hx with h|h|h
      · exact .inl qO
      · exact .inl qO
      · exact .inr h
     have:=zaej l t2
     omega
   · rcases hr v qP with h|⟨c,hc,h1,h2⟩
     · exact absurd h hg
     · have hcv:c≠v:=fun e=>by subst e;omega
       have hcl:c ∈ l:=by
        rcases List.mem_cons.1 hc with e|e
        · exact absurd e hcv
        · exact e
       have:0<sumC (fun c=>A v c*lapl (redir A v c) G l) l:=by
        refine zao0 l t2 ⟨c,hcl,Int.mul_pos h1 ((i2 c).2 ⟨rank,fun x hx=>?_⟩)⟩
        have hxv:x≠v:=fun e=>hv (by rw [← e];exact hx)
        rcases hr x (by simp [hx]) with h|⟨u,hu,g1,g2⟩
        · exact .inl h
        · refine .inr ?_
          rcases List.mem_cons.1 hu with e|e
          · subst e
            refine ⟨c,hcl,?_,by omega⟩
            have hxc:x≠c:=fun e=>by subst e;omega
            have:=hA x c;simp only [redir,if_neg hxc,if_true]
            omega
          · refine ⟨u,e,?_,g2⟩
            have hxu:x≠u:=fun e=>by subst e;omega
            have:=hA x c;have:=hA x v;simp only [redir,if_neg hxu]
            split
            · rename_i e2;subst e2;omega
            · exact g1
       omega
theorem zar7 {r:Nat→Int} {D D':List Nat→Int} (f:Nat→Nat) (hD:∀ l,D' l=D (l.map f)):∀ (cs pre:List Nat),exC (fun j=>r (f j)) D' pre cs=exC r D (pre.map f) (cs.map f)
 | [],_=>rfl
 | c :: cs,pre=>by
   simp only [exC,List.map_cons];rw [zar7 f hD cs (pre ++ [c]),hD (pre ++ cs),List.map_append,List.map_append]
   rfl
theorem zao1 (f:Nat→Nat):∀ (rs:List (Nat→Int)) (cs:List Nat),detC (rs.map fun r j=>r (f j)) cs=detC rs (cs.map f)
 | [],[]=>rfl
 | [],_ :: _=>rfl
 | r :: rs,cs=>by
   rw [List.map_cons,zabm,zabm]
   exact zar7 f (fun l=>zao1 f rs l) cs []
def rowabs (r:Nat→Int):List Nat→Nat
 | []=>0
 | c :: cs=>(r c).natAbs+rowabs r cs
theorem zab8 (r:Nat→Int):∀ (p q:List Nat),rowabs r (p ++ q)=rowabs r p+rowabs r q
 | [],_=>by simp [rowabs]
 | c :: p,q=>by
   simp only [List.cons_append,rowabs,zab8 r p q]
   omega
theorem zauj {r:Nat→Int} {D:List Nat→Int} {K:Nat}:∀ (cs pre:List Nat),(∀ p c q,p ++ c :: q=pre ++ cs→(D (p ++ q)).natAbs≤K)→(exC r D pre cs).natAbs≤rowabs r cs*K
 | [],_,_=>by simp [exC]
 | c :: cs,pre,h=>by
   have h1:=h pre c cs rfl
   have h2:=zauj (r:=r) cs (pre ++ [c]) (fun p x q e=>h p x q (by rw [e];simp))
   have h3:(r c*D (pre ++ cs)).natAbs≤(r c).natAbs*K:=by rw [Int.natAbs_mul];exact Nat.mul_le_mul_left _ h1
   simp only [exC,rowabs];rw [Nat.add_mul];have h4:=Int.natAbs_sub_le (r c*D (pre ++ cs)) (exC r D (pre ++ [c]) cs)
   omega
theorem zar8 {S:Nat}:∀ (rs:List (Nat→Int)) (cs:List Nat),(∀ r ∈ rs,rowabs r cs≤S)→(detC rs cs).natAbs≤S ^ rs.length
 | [],[],_=>by simp [detC]
 | [],_ :: _,_=>by simp [detC]
 | r :: rs,cs,h=>by
   rw [zabm,List.length_cons,Nat.pow_succ,Nat.mul_comm]
   refine Nat.le_trans (zauj (K:=S ^ rs.length) cs [] fun p c q e=>zar8 rs (p ++ q) fun x hx=>?_) (Nat.mul_le_mul_right _ (h r qP))
   have:=h x (by simp [hx]);simp only [List.nil_append] at e;rw [← e,zab8] at this;rw [zab8];simp only [rowabs] at this
   omega
structure DetAt (r:Nat→Int) (D:List Nat→Int) (pre cs:List Nat) (T:Int) (sum sign:Int) (K:Nat):Prop where
 eq:sum+sign*exC r D pre cs=T
 sg:sign=1∨sign = -1
 bd:sum.natAbs≤rowabs r pre*K
theorem DetAt.start (r:Nat→Int) (D:List Nat→Int) (cs:List Nat) (K:Nat):DetAt r D [] cs (exC r D [] cs) 0 1 K:=⟨by omega,.inl rfl,by simp⟩
theorem zaf7 {sg:Int} (h:sg=1∨sg = -1) (x:Int):(sg*x).natAbs=x.natAbs:=by
 rcases h with rfl|rfl <;> omega
theorem DetAt.next {r:Nat→Int} {D:List Nat→Int} {pre cs:List Nat} {c:Nat} {T sum sign:Int} {K:Nat} (h:DetAt r D pre (c :: cs) T sum sign K) (hD:(D (pre ++ cs)).natAbs≤K) :
 DetAt r D (pre ++ [c]) cs T (sum+sign*r c*D (pre ++ cs)) (-sign) K:=by
 refine ⟨?_,?_,?_⟩
 · have:=h.eq
   simp only [exC] at this;rw [← this,Int.mul_sub,Int.mul_assoc,Int.neg_mul]
   omega
 · rcases h.sg with e|e <;> rw [e] <;> simp
 · rw [zab8]
   simp only [rowabs];have h1:=h.bd
   have h2:(sign*r c*D (pre ++ cs)).natAbs≤(r c).natAbs*K:=by
    rw [Int.mul_assoc,zaf7 h.sg,Int.natAbs_mul];exact Nat.mul_le_mul_left _ hD
   have h3:=Int.natAbs_add_le sum (sign*r c*D (pre ++ cs));rw [Nat.add_mul,Nat.add_zero]
   omega
theorem DetAt.zero {r:Nat→Int} {D:List Nat→Int} {pre cs:List Nat} {c:Nat} {T sum sign:Int} {K:Nat} (h:DetAt r D pre (c :: cs) T sum sign K) (h0:r c=0):DetAt r D (pre ++ [c]) cs T sum (-sign) K:=by
 refine ⟨?_,?_,?_⟩
 · have:=h.eq
   simp only [exC,h0] at this;rw [← this,Int.zero_mul,Int.zero_sub,Int.neg_mul,Int.mul_neg]
 · rcases h.sg with e|e <;> rw [e] <;> simp
 · rw [zab8]
   simp only [rowabs,h0];have h1:=h.bd;rw [Nat.add_mul];simp only [Int.natAbs_zero,Nat.add_zero,Nat.zero_mul]
   omega
theorem DetAt.done {r:Nat→Int} {D:List Nat→Int} {pre:List Nat} {T sum sign:Int} {K:Nat} (h:DetAt r D pre [] T sum sign K):sum=T:=by
 have:=h.eq;simp only [exC] at this
 omega
def cols (u a m:Nat):List Nat:=(List.range' a m).filter fun j=>!u.testBit j
theorem zafr (u a:Nat):cols u a 0=[]:=rfl
theorem zahm {u a m:Nat} (h:u.testBit a=true):cols u a (m+1)=cols u (a+1) m:=by
 unfold cols;rw [List.range'_succ,List.filter_cons];simp [h]
theorem zafs {u a m:Nat} (h:u.testBit a=false):cols u a (m+1)=a :: cols u (a+1) m:=by
 unfold cols;rw [List.range'_succ,List.filter_cons];simp [h]
theorem zafe (u a m k:Nat):cols u a (m+k)=cols u a m ++ cols u (a+m) k:=by
 unfold cols;rw [← List.filter_append,List.range'_append_1]
theorem zalp {u c:Nat} (h:u.testBit c=true):cols u 0 (c+1)=cols u 0 c:=by
 rw [zafe u 0 c 1,Nat.zero_add,zahm h,zafr,List.append_nil]
theorem zagh {u c:Nat} (h:u.testBit c=false):cols u 0 (c+1)=cols u 0 c ++ [c]:=by
 rw [zafe u 0 c 1,Nat.zero_add,zafs h,zafr]
theorem zamk {u c n:Nat} (hc:c<n) (h:u.testBit c=false):cols (u ||| (1 <<< c)) 0 n=cols u 0 c ++ cols u (c+1) (n - c - 1):=by
 have hb:∀ j,(u ||| (1 <<< c)).testBit j=(u.testBit j || decide (c=j)):=fun j=>by
  rw [Nat.testBit_or,Nat.one_shiftLeft,Nat.testBit_two_pow]
 obtain ⟨m,rfl⟩:∃ m,n=c+(m+1):=⟨n - c - 1,by omega⟩;rw [zafe _ 0 c (m+1),Nat.zero_add,zahm (by rw [hb];simp),show c+(m+1) - c - 1=m by omega]
 congr 1
 · unfold cols
   refine List.filter_congr fun j hj=>?_
   have:j<c:=by simp [List.mem_range'] at hj;omega
   rw [hb,decide_eq_false qO];simp
 · unfold cols
   refine List.filter_congr fun j hj=>?_
   have:c+1≤j:=by simp [List.mem_range'] at hj;omega
   rw [hb,decide_eq_false qO];simp
theorem zawe {u c n:Nat} (hc:c<n) (h:u.testBit c=false):(cols (u ||| (1 <<< c)) 0 n).length+1=(cols u 0 n).length:=by
 rw [zamk hc h];obtain ⟨m,rfl⟩:∃ m,n=c+(m+1):=⟨n - c - 1,by omega⟩;rw [zafe u 0 c (m+1),Nat.zero_add,zafs h,show c+(m+1) - c - 1=m by omega];simp only [List.length_append,List.length_cons]
 omega
theorem zahn (n:Nat):cols 0 0 n=List.range' 0 n:=by
 unfold cols;rw [List.filter_eq_self];intro j _
 simp
theorem zano (n:Nat):(cols 0 0 n).length=n:=by rw [zahn];simp
structure MatIn (S:Nat) (M:List (List Int)):Prop where
 row:∀ r ∈ M,r.length=M.length
 sum:∀ r ∈ M,rowabs (nth r) (List.range' 0 M.length)≤S
def detL (M:List (List Int)):Int:=detC (M.map nth) (List.range' 0 M.length)
theorem zag9 (r:Nat→Int) (p:Nat→Bool):∀ l:List Nat,rowabs r (l.filter p)≤rowabs r l
 | []=>Nat.le_refl _
 | c :: l=>by
   have:=zag9 r p l;rw [List.filter_cons]
   split
   · simp only [rowabs];omega
   · simp only [rowabs];omega
theorem zais (r:Nat→Int) (u n:Nat):rowabs r (cols u 0 n)≤rowabs r (List.range' 0 n):=zag9 r _ _
theorem MatIn.det_le {S:Nat} {M:List (List Int)} (h:MatIn S M) (k u:Nat):(detC ((M.drop k).map nth) (cols u 0 M.length)).natAbs≤S ^ (M.length - k):=by
 have:=zar8 (S:=S) ((M.drop k).map nth) (cols u 0 M.length) fun r hr=>by
  obtain ⟨x,hx,rfl⟩:=List.mem_map.1 hr
  exact Nat.le_trans (zais _ _ _) (h.sum x (List.mem_of_mem_drop hx))
 simpa using this
theorem MatIn.le {S:Nat} {M:List (List Int)} (h:MatIn S M):(detL M).natAbs≤S ^ M.length:=by
 have:=h.det_le 0 0;rw [zahn] at this
 simpa [detL] using this
def cutCol (k:Nat) (r:List Int):List Int:=r.take k ++ r.drop (k+1)
theorem zakc {k:Nat} {r:List Int} (h:k<r.length):(cutCol k r).length+1=r.length:=by simp [cutCol];omega
theorem zakd {k j:Nat} {r:List Int} (h:k<r.length):nth (cutCol k r) j=nth r (if j<k then j else j+1):=by
 unfold cutCol
 by_cases hj:j<k
 · rw [if_pos hj,zaam (by simp;omega),zabt hj]
 · rw [if_neg hj,zaay (by simp;omega),zaba]
   congr 1
   simp;omega
theorem zake {k n:Nat} (h:k<n):(List.range' 0 (n - 1)).map (fun j=>if j<k then j else j+1)=List.range' 0 k ++ List.range' (k+1) (n - k - 1):=by
 obtain ⟨m,rfl⟩:∃ m,n=k+(m+1):=⟨n - k - 1,by omega⟩;rw [show k+(m+1) - 1=k+m by omega,show k+(m+1) - k - 1=m by omega,← List.range'_append_1 (s:=0) (m:=k) (n:=m),List.map_append,Nat.zero_add]
 congr 1
 · refine (List.map_congr_left fun j hj=>?_).trans (List.map_id _)
   have:j<k:=by simp [List.mem_range'] at hj;omega
   rw [if_pos this];rfl
 · rw [show List.range' (k+1) m=(List.range' k m).map (·+1) by have:=List.map_add_range' (a:=1) k m 1;simp only [Nat.add_comm] at this ⊢;exact this.symm]
   refine List.map_congr_left fun j hj=>?_
   have:¬ j<k:=by simp [List.mem_range'] at hj;omega
   rw [if_neg this]
theorem zaxv {rs:List (List Int)} {n k:Nat} (hk:k<n) (h:∀ r ∈ rs,r.length=n):detC ((rs.map (cutCol k)).map nth) (List.range' 0 (n - 1))=detC (rs.map nth) (List.range' 0 k ++ List.range' (k+1) (n - k - 1)):=by
 rw [← zake hk,← zao1,List.map_map,List.map_map]
 refine zadw _ _ (fun _=>True) rs (fun r hr c _=>?_) _ (fun _ _=>trivial)
 show nth (cutCol k r) c=nth r _
 exact zakd (by rw [h r hr];exact hk)
theorem MatIn.cut {S:Nat} {r:List Int} {M:List (List Int)} (h:MatIn S (r :: M)) {k:Nat} (hk:k<M.length+1):MatIn S (M.map (cutCol k))∧(detL (M.map (cutCol k)))=detC (M.map nth) (List.range' 0 k ++ List.range' (k+1) (M.length+1 - k - 1)):=by
 have hl:∀ x ∈ M,x.length=M.length+1:=fun x hx=>h.row x (by simp [hx])
 have hd:=zaxv (rs:=M) hk hl
 refine ⟨⟨fun x hx=>?_,fun x hx=>?_⟩,?_⟩
 · obtain ⟨y,hy,rfl⟩:=List.mem_map.1 hx
   have:=zakc (k:=k) (r:=y) (by rw [hl y hy];exact hk);rw [List.length_map];have:=hl y hy
   omega
 · obtain ⟨y,hy,rfl⟩:=List.mem_map.1 hx
   have hky:k<y.length:=by rw [hl y hy];exact hk
   rw [List.length_map]
   have e:rowabs (nth (cutCol k y)) (List.range' 0 M.length)=rowabs (nth y) ((List.range' 0 M.length).map (fun j=>if j<k then j else j+1)):=by
    generalize List.range' 0 M.length=l
    induction l with
    | nil=>rfl
    | cons a l ih=>simp only [rowabs,List.map_cons,ih,zakd hky]
   have e2:=zake (n:=M.length+1) hk;rw [show M.length+1 - 1=M.length by omega] at e2;have e3:=h.sum y (by simp [hy]);rw [e,e2,zab8];rw [List.length_cons] at e3;obtain ⟨m,hm⟩:∃ m,M.length+1=k+(m+1):=⟨M.length - k,by omega⟩;rw [hm,← List.range'_append_1 (s:=0) (m:=k) (n:=m+1),Nat.zero_add,zab8,List.range'_succ] at e3;rw [hm,show k+(m+1) - k - 1=m by omega];simp only [rowabs] at e3
   omega
 · rw [← hd]
   simp [detL]
def betw (g:Lg) (a b:Int):Int:=if (g.frm=a∧g.to=b)∨(g.frm=b∧g.to=a) then 1 else 0
def atSt (g:Lg) (a:Int):Int:=if g.frm=a∨g.to=a then 1 else 0
def linkC (g:Lg) (a b:Int):Int:=if a=b then atSt g a else -betw g a b
def linkN (l:List Lg) (a b:Int):Int:=(l.map fun g=>linkC g a b).sum
theorem zagx (g:Lg) (l:List Lg) (a b:Int):linkN (g :: l) a b=linkC g a b+linkN l a b:=by simp [linkN]
theorem zas1 (l:List Lg) (g:Lg) (a b:Int):linkN (l ++ [g]) a b=linkN l a b+linkC g a b:=by simp [linkN]
theorem zakf {l:List Lg} {k:Nat} (h:k<l.length) (a b:Int):linkN (l.take (k+1)) a b=linkN (l.take k) a b+linkC (nth l k) a b:=by rw [zabc h,zas1]
theorem zauk (g:Lg) (a b:Int):(linkC g a b).natAbs≤1:=by
 unfold linkC atSt betw
 split <;> split <;> omega
theorem zaft:∀ (l:List Lg) (a b:Int),(linkN l a b).natAbs≤l.length
 | [],_,_=>by simp [linkN]
 | g :: l,a,b=>by
   have:=zaft l a b;have:=zauk g a b;rw [zagx,List.length_cons]
   omega
def linkRow (l:List Lg) (m i:Nat):List Int:=(List.range m).map fun j:Nat=>linkN l ((i:Int)+1) ((j:Int)+1)
def linkM (l:List Lg) (m:Nat):List (List Int):=(List.range m).map (linkRow l m)
theorem zaar (l:List Lg) (m:Nat):(linkM l m).length=m:=by simp [linkM]
theorem zaq9 (l:List Lg) (m i:Nat):(linkRow l m i).length=m:=by simp [linkRow]
theorem zaul {l:List Lg} {m i:Nat} (h:i<m):nth (linkM l m) i=linkRow l m i:=by simp [linkM,nth,h]
theorem zara {l:List Lg} {m i j:Nat} (h:j<m):nth (linkRow l m i) j=linkN l ((i:Int)+1) ((j:Int)+1):=by simp [linkRow,nth,h]
def betwN (l:List Lg) (a b:Int):Int:=(l.map fun g=>betw g a b).sum
theorem zac5 (g:Lg) (l:List Lg) (a b:Int):betwN (g :: l) a b=betw g a b+betwN l a b:=by simp [betwN]
theorem zait (g:Lg) (a b:Int):0≤betw g a b:=by unfold betw;split <;> omega
theorem zadx:∀ (l:List Lg) (a b:Int),0≤betwN l a b
 | [],_,_=>by simp [betwN]
 | g :: l,a,b=>by
   have:=zadx l a b;have:=zait g a b;rw [zac5];omega
theorem zaho:∀ {l:List Lg} {g:Lg} {a b:Int},g ∈ l→((g.frm=a∧g.to=b)∨(g.frm=b∧g.to=a))→0<betwN l a b
 | [],_,_,_,h,_=>by cases h
 | x :: l,g,a,b,h,e=>by
   rw [zac5];have h1:=zadx l a b;have h2:=zait x a b
   rcases List.mem_cons.1 h with rfl|h
   · unfold betw;rw [if_pos e];omega
   · have:=zaho h e;omega
theorem zalq (o:Int):∀ m:Nat,((List.range' 0 m).map fun v:Nat=>if (v:Int)+1=o then (1:Int) else 0).sum=if 1≤o∧o≤m then 1 else 0
 | 0=>by
   rw [if_neg qO];rfl
 | m+1=>by
   have e:List.range' 0 (m+1)=List.range' 0 m ++ [m]:=by rw [List.range'_concat];simp
   rw [e,List.map_append,List.sum_append,zalq o m];simp only [List.map_cons,List.map_nil,List.sum_cons,List.sum_nil]
   by_cases h1:(m:Int)+1=o
   · rw [if_pos h1,if_neg qO,if_pos qO];rfl
   · rw [if_neg h1]
     by_cases h2:1≤o∧o≤m
     · rw [if_pos h2,if_pos qO];rfl
     · rw [if_neg h2,if_neg qO];rfl
theorem zawf {g:Lg} {m:Nat} {a:Int} (hE:EdgeIn (m+1) g) (hne:g.frm≠g.to):betw g a 0+((List.range' 0 m).map fun v:Nat=>betw g a ((v:Int)+1)).sum=atSt g a:=by
 obtain ⟨⟨h1,h2⟩,h3,h4⟩:=hE;unfold atSt
 by_cases hf:g.frm=a
 · have e:∀ b,betw g a b=if b=g.to then 1 else 0:=fun b=>by
    unfold betw
    by_cases hb:b=g.to
    · rw [if_pos hb,if_pos (.inl ⟨hf,hb.symm⟩)]
    · rw [if_neg hb,if_neg (by rintro (⟨_,h⟩|⟨_,h⟩) <;> omega)]
   have e2:(fun v:Nat=>betw g a ((v:Int)+1))=fun v:Nat=>if (v:Int)+1=g.to then (1:Int) else 0:=by funext v;exact e _
   rw [e2,zalq,e 0,if_pos (show g.frm=a∨g.to=a from .inl hf)]
   by_cases h0:(0:Int)=g.to
   · rw [if_pos h0,if_neg qO];rfl
   · rw [if_neg h0,if_pos qO];rfl
 · by_cases ht:g.to=a
   · have e:∀ b,betw g a b=if b=g.frm then 1 else 0:=fun b=>by
      unfold betw
      by_cases hb:b=g.frm
      · rw [if_pos hb,if_pos (.inr ⟨hb.symm,ht⟩)]
      · rw [if_neg hb,if_neg (by rintro (⟨h,_⟩|⟨h,_⟩) <;> omega)]
     have e2:(fun v:Nat=>betw g a ((v:Int)+1))=fun v:Nat=>if (v:Int)+1=g.frm then (1:Int) else 0:=by funext v;exact e _
     rw [e2,zalq,e 0,if_pos (show g.frm=a∨g.to=a from .inr ht)]
     by_cases h0:(0:Int)=g.frm
     · rw [if_pos h0,if_neg qO];rfl
     · rw [if_neg h0,if_pos qO];rfl
   · have e:∀ b,betw g a b=0:=fun b=>by
      unfold betw
      rw [if_neg (by rintro (⟨h,_⟩|⟨_,h⟩) <;> omega)]
     have e2:(fun v:Nat=>betw g a ((v:Int)+1))=fun _=>(0:Int):=by funext v;exact e _
     rw [e2,e 0,if_neg qO];generalize List.range' 0 m=r
     induction r with
     | nil=>rfl
     | cons x r ih=>simp only [List.map_cons,List.sum_cons] at ih ⊢;omega
theorem zar9 {α:Type} (f g:α→Int):∀ l:List α,(l.map fun x=>f x+g x).sum=(l.map f).sum+(l.map g).sum
 | []=>rfl
 | x :: l=>by simp only [List.map_cons,List.sum_cons,zar9 f g l];omega
theorem zaml {m:Nat} {a:Int}:∀ (l:List Lg),(∀ g ∈ l,EdgeIn (m+1) g∧g.frm≠g.to)→betwN l a 0+((List.range' 0 m).map fun v:Nat=>betwN l a ((v:Int)+1)).sum=linkN l a a
 | [],_=>by
   have:((List.range' 0 m).map fun v:Nat=>betwN [] a ((v:Int)+1)).sum=0:=by
    generalize List.range' 0 m=r
    induction r with
    | nil=>rfl
    | cons x r ih=>simp only [List.map_cons,List.sum_cons,betwN,List.map_nil,List.sum_nil] at ih ⊢;omega
   rw [this];rfl
 | g :: l,h=>by
   have i1:=zawf (m:=m) (a:=a) (h g qP).1 (h g qP).2
   have i2:=zaml (m:=m) (a:=a) l fun x hx=>h x (by simp [hx])
   have e:(fun v:Nat=>betwN (g :: l) a ((v:Int)+1))=fun v:Nat=>betw g a ((v:Int)+1)+betwN l a ((v:Int)+1):=by funext v;exact zac5 _ _ _ _
   rw [e,zar9,zac5,zagx];unfold linkC;rw [if_pos rfl]
   omega
theorem zao2 {a b:Int} (hab:a≠b):∀ l:List Lg,linkN l a b = -betwN l a b
 | []=>rfl
 | g :: l=>by
   rw [zagx,zac5,zao2 hab l];unfold linkC;rw [if_neg hab]
   omega
theorem zaum {m:Nat} {l:List Lg} (h:∀ g ∈ l,EdgeIn (m+1) g∧g.frm≠g.to) :
 detL (linkM l m)=lapl (fun i j=>betwN l ((i:Int)+1) ((j:Int)+1)) (fun i=>betwN l ((i:Int)+1) 0) (List.range' 0 m):=by
 unfold detL lapl;rw [zaar,linkM,List.map_map,List.range_eq_range']
 refine zadw _ _ (fun c=>c<m) _ (fun i hi c hc=>?_) _ (fun c hc=>by simp [List.mem_range'] at hc;omega)
 have him:i<m:=by simp [List.mem_range'] at hi;omega
 show nth (linkRow l m i) c=rowL _ _ _ i c
 rw [zara hc];unfold rowL
 by_cases e:c=i
 · subst e
   rw [if_pos rfl,← zaml l h]
   rfl
 · rw [if_neg e,zao2 qO]
theorem least {P:Nat→Prop} (h:∃ n,P n):∃ n,P n∧∀ m,m<n→¬ P m:=by
 obtain ⟨n,hn⟩:=h
 induction n using Nat.strongRecOn with
 | _ n ih =>
   by_cases hl:∃ m,m<n∧P m
   · obtain ⟨m,h1,h2⟩:=hl
     exact ih m h1 h2
   · exact ⟨n,hn,fun m hm hp=>hl ⟨m,hm,hp⟩⟩
inductive RN (E:List Lg) (r:Int):Nat→Int→Prop
 | here:RN E r 0 r
 | go {k:Nat} {a b:Int}:Link E a b→RN E r k b→RN E r (k+1) a
theorem RN.of {E:List Lg} {a r:Int} (h:Reach E a r):∃ k,RN E r k a:=by
 induction h with
 | here a=>exact ⟨0,.here⟩
 | go l _ ih=>obtain ⟨k,hk⟩:=ih;exact ⟨k+1,.go l hk⟩
theorem zaxw {E:List Lg} {r:Int}:∃ rank:Int→Nat,∀ x,x≠r→Reach E x r→∃ u,Link E x u∧rank u<rank x:=by
 classical
 refine ⟨fun x=>if h:∃ k,RN E r k x then Classical.choose (least h) else 0,fun x hx hr=>?_⟩
 have h:=RN.of hr;obtain ⟨h1,h2⟩:=Classical.choose_spec (least h);simp only [dif_pos h];generalize Classical.choose (least h)=k at h1 h2
 cases h1 with
 | here=>exact absurd rfl hx
 | @go k _ b lk hb =>
   refine ⟨b,lk,?_⟩
   have h':∃ k,RN E r k b:=⟨k,hb⟩;obtain ⟨g1,g2⟩:=Classical.choose_spec (least h');rw [dif_pos h'];generalize Classical.choose (least h')=q at g1 g2
   rcases Nat.lt_or_ge q (k+1) with e|e
   · exact e
   · exact absurd hb (g2 k qO)
theorem zanp {m:Nat} {l:List Lg} (h:∀ g ∈ l,EdgeIn (m+1) g∧g.frm≠g.to) (hr:∀ x:Int,0≤x→x<m+1→Reach l x 0):0<detL (linkM l m):=by
 rw [zaum h];obtain ⟨rank,hk⟩:=zaxw (E:=l) (r:=0)
 have hself:∀ a,betwN l a a=0:=fun a=>by
  have:∀ l:List Lg,(∀ g ∈ l,g.frm≠g.to)→betwN l a a=0:=by
   intro l
   induction l with
   | nil=>intro _;rfl
   | cons g l ih =>
     intro hl
     rw [zac5,ih fun x hx=>hl x (by simp [hx])]
     unfold betw;have:=hl g qP
     rw [if_neg (by rintro (⟨h1,h2⟩|⟨h1,h2⟩) <;> omega)]
     rfl
  exact this l fun g hg=>(h g hg).2
 refine (zawd (List.range' 0 m) _ _ List.nodup_range' (fun i=>hself _) (fun i j=>zadx _ _ _) (fun i=>zadx _ _ _)).2 ⟨fun i=>rank ((i:Int)+1),fun x hx=>?_⟩
 have hxm:x<m:=by simp [List.mem_range'] at hx;omega
 obtain ⟨u,⟨g,hg,hd⟩,hu⟩:=hk ((x:Int)+1) qO (hr _ qO qO);have hin:=(h g hg).1;obtain ⟨⟨h1,h2⟩,h3,h4⟩:=hin
 have hd':(g.frm=(x:Int)+1∧g.to=u)∨(g.frm=u∧g.to=(x:Int)+1):=by
  rcases hd with ⟨e1,e2⟩|⟨e1,e2⟩
  · exact .inl ⟨e1,e2⟩
  · exact .inr ⟨e2,e1⟩
 have hur:0≤u∧u<m+1:=by rcases hd' with ⟨e1,e2⟩|⟨e1,e2⟩ <;> omega
 by_cases h0:u=0
 · subst h0;exact .inl (zaho hg hd')
 · refine .inr ⟨(u - 1).toNat,by simp [List.mem_range'];omega,?_,?_⟩
   · show 0<betwN l ((x:Int)+1) (((u - 1).toNat:Int)+1)
     rw [show ((u - 1).toNat:Int)+1=u by omega]
     exact zaho hg hd'
   · show rank (((u - 1).toNat:Int)+1)<rank ((x:Int)+1)
     rw [show ((u - 1).toNat:Int)+1=u by omega]
     exact hu
def partsN (p:List Int) (k:Nat):Nat:=((List.range k).filter fun i=>decide (nth p i=(i:Int))).length
theorem zady {p:List Int} {k:Nat} (h:nth p k=(k:Int)):partsN p (k+1)=partsN p k+1:=by
 unfold partsN;rw [List.range_succ,List.filter_append];simp [h]
theorem zafu {p:List Int} {k:Nat} (h:nth p k≠(k:Int)):partsN p (k+1)=partsN p k:=by
 unfold partsN;rw [List.range_succ,List.filter_append];simp [h]
theorem zafv (p:List Int):∀ k,partsN p k≤k
 | 0=>Nat.le_refl _
 | k+1=>by
   have:=zafv p k
   by_cases h:nth p k=(k:Int)
   · rw [zady h];omega
   · rw [zafu h];omega
theorem Reach.same {n:Nat} {E:List Lg} {p:List Int} (hp:Parted n E p) {a b:Int} (h:Reach E a b):nth p a.toNat=nth p b.toNat:=by
 induction h with
 | here=>rfl
 | go l _ ih =>
   obtain ⟨g,hg,⟨rfl,rfl⟩|⟨rfl,rfl⟩⟩:=l
   · exact (hp.same g hg).trans ih
   · exact (hp.same g hg).symm.trans ih
theorem zahp {p:List Int}:∀ {n a b:Nat},a<b→b<n→nth p a=(a:Int)→nth p b=(b:Int)→2≤partsN p n
 | 0,_,_,_,h,_,_=>by omega
 | n+1,a,b,hab,hb,ha,hbb=>by
   by_cases e:b=n
   · subst e
     rw [zady hbb]
     have:1≤partsN p b:=by
      unfold partsN
      have hm:a ∈ (List.range b).filter fun i=>decide (nth p i=(i:Int)):=by simp [hab,ha]
      exact List.length_pos_of_mem hm
     omega
   · have:=zahp (n:=n) hab qO ha hbb
     by_cases h:nth p n=(n:Int)
     · rw [zady h];omega
     · rw [zafu h];exact this
theorem zas2 {n:Nat} {E:List Lg} {p:List Int} (hp:Parted n E p) (hn:0<n) (h1:partsN p n=1):∀ x:Int,0≤x→x<n→Reach E x 0:=by
 intro x h0 hx
 have fix:∀ k,k<n→nth p (nth p k).toNat=nth p k:=fun k hk=>by
  have:=(hp.reach k hk).same hp;rw [← this];simp
 have r0:=hp.reach 0 hn;have rx:=hp.reach x.toNat qO;rw [show ((x.toNat:Nat):Int)=x by omega] at rx;have l0:=hp.lo 0 hn;have lx:=hp.lo x.toNat qO
 have e:nth p x.toNat=nth p 0:=by
  by_cases e:nth p x.toNat=nth p 0
  · exact e
  · exfalso
    have f0:=fix 0 hn;have fx:=fix x.toNat qO
    rcases Int.lt_or_gt_of_ne e with h|h
    · have:=zahp (p:=p) (n:=n) (a:=(nth p x.toNat).toNat) (b:=(nth p 0).toNat) qO qO (by rw [fx];omega) (by rw [f0];omega)
      omega
    · have:=zahp (p:=p) (n:=n) (a:=(nth p 0).toNat) (b:=(nth p x.toNat).toNat) qO qO (by rw [f0];omega) (by rw [fx];omega)
      omega
 rw [e] at rx
 exact rx.trans r0.symm
structure MatV (M:List (List Int)):Prop where
 len:M.length≤5
 row:∀ r ∈ M,r.length=M.length
 ent:∀ r ∈ M,∀ x ∈ r,-999≤x∧x≤999
theorem zaey {r:Nat→Int} {B:Nat}:∀ (cs:List Nat),(∀ j ∈ cs,(r j).natAbs≤B)→rowabs r cs≤B*cs.length
 | [],_=>by simp [rowabs]
 | a :: cs,h=>by
   have:=zaey cs fun j hj=>h j (by simp [hj])
   have:=h a qP;rw [rowabs,List.length_cons,Nat.mul_add,Nat.mul_one]
   omega
theorem zamm {r:Nat→Int} {B X c:Nat}:∀ (cs:List Nat),cs.Nodup→(∀ j ∈ cs,j≠c→(r j).natAbs≤B)→(r c).natAbs≤X→rowabs r cs≤B*cs.length+X
 | [],_,_,_=>by simp [rowabs]
 | a :: cs,hn,h,hx=>by
   obtain ⟨ha,hn⟩:=List.nodup_cons.1 hn;rw [rowabs,List.length_cons,Nat.mul_add,Nat.mul_one]
   by_cases e:a=c
   · subst e
     have h2:rowabs r cs≤B*cs.length:=zaey cs fun j hj=>h j (by simp [hj]) fun e=>ha (by rw [← e];exact hj)
     omega
   · have h1:=h a qP e
     have h2:=zamm cs hn (fun j hj=>h j (by simp [hj])) hx
     omega
theorem mem_range0 {j n:Nat}:j ∈ List.range' 0 n↔j<n:=by simp [List.mem_range']
theorem MatV.in {M:List (List Int)} (h:MatV M):MatIn 4995 M:=by
 refine ⟨h.row,fun r hr=>?_⟩
 have:=zaey (r:=nth r) (B:=999) (List.range' 0 M.length) fun j hj=>by
  have:=h.ent r hr _ (zaaf (by rw [h.row r hr];exact mem_range0.1 hj))
  omega
 have h5:=h.len;simp only [List.length_range'] at this
 omega
def setCol (c:Nat) (r:List Int) (M:List (List Int)):List (List Int):=(List.range M.length).map fun i=>(nth M i).set c (nth r i)
theorem zabg (c:Nat) (r:List Int) (M:List (List Int)):(setCol c r M).length=M.length:=by simp [setCol]
theorem zas3 {c:Nat} {r:List Int} {M:List (List Int)} {i:Nat} (h:i<M.length):nth (setCol c r M) i=(nth M i).set c (nth r i):=by simp [setCol,nth,h]
theorem zaez {c:Nat} {r:List Int} {M:List (List Int)} {y:List Int} (h:y ∈ setCol c r M):∃ i,i<M.length∧y=(nth M i).set c (nth r i):=by
 obtain ⟨i,hi,rfl⟩:=List.mem_map.1 h
 exact ⟨i,List.mem_range.1 hi,rfl⟩
theorem MatV.setCol {M:List (List Int)} (h:MatV M) {r:List Int} (hl:r.length=M.length) (hr:∀ x ∈ r,-999≤x∧x≤999) (c:Nat):MatV (setCol c r M):=by
 refine ⟨by rw [zabg];exact h.len,fun y hy=>?_,fun y hy x hx=>?_⟩
 · obtain ⟨i,hi,rfl⟩:=zaez hy
   rw [List.length_set,zabg];exact h.row _ (zaaf hi)
 · obtain ⟨i,hi,rfl⟩:=zaez hy
   rcases List.mem_or_eq_of_mem_set hx with e|e
   · exact h.ent _ (zaaf hi) _ e
   · rw [e];exact hr _ (zaaf qO)
def solveL (M:List (List Int)) (r:List Int):List Int:=(List.range M.length).map fun c=>detL (setCol c r M)
theorem zadz (M:List (List Int)) (r:List Int):(solveL M r).length=M.length:=by simp [solveL]
theorem zakg {M:List (List Int)} {r:List Int} {c:Nat} (h:c<M.length):nth (solveL M r) c=detL (setCol c r M):=by simp [solveL,nth,h]
def pullC (f:Lg→Int) (g:Lg) (a:Int):Int:=(if g.to=a then f g else 0) - (if g.frm=a then f g else 0)
def pullN (f:Lg→Int) (l:List Lg) (a:Int):Int:=(l.map fun g=>pullC f g a).sum
theorem zas4 (f:Lg→Int) (g:Lg) (l:List Lg) (a:Int):pullN f (g :: l) a=pullC f g a+pullN f l a:=by simp [pullN]
theorem zas5 (f:Lg→Int) (l:List Lg) (g:Lg) (a:Int):pullN f (l ++ [g]) a=pullN f l a+pullC f g a:=by simp [pullN]
theorem zae0 {f:Lg→Int} {l:List Lg} {k:Nat} (h:k<l.length) (a:Int):pullN f (l.take (k+1)) a=pullN f (l.take k) a+pullC f (nth l k) a:=by rw [zabc h,zas5]
theorem zaek {f:Lg→Int}:∀ {l:List Lg} (a:Int),(∀ g ∈ l,g.frm≠g.to∧-99≤f g∧f g≤99)→(pullN f l a).natAbs≤99*l.length
 | [],_,_=>by simp [pullN]
 | g :: l,a,h=>by
   have h1:=zaek (l:=l) a fun x hx=>h x (by simp [hx])
   obtain ⟨h2,h3,h4⟩:=h g qP
   have h5:(pullC f g a).natAbs≤99:=by
    unfold pullC
    by_cases e1:g.to=a
    · rw [if_pos e1,if_neg qO];omega
    · rw [if_neg e1];split <;> omega
   rw [zas4,List.length_cons,Nat.mul_add]
   omega
def pullL (f:Lg→Int) (l:List Lg) (m:Nat):List Int:=(List.range m).map fun i:Nat=>pullN f l ((i:Int)+1)
theorem zafw (f:Lg→Int) (l:List Lg) (m:Nat):(pullL f l m).length=m:=by simp [pullL]
theorem zaun {f:Lg→Int} {l:List Lg} {m i:Nat} (h:i<m):nth (pullL f l m) i=pullN f l ((i:Int)+1):=by simp [pullL,nth,h]
theorem zajh {f:Lg→Int} {l:List Lg} {m:Nat} (hl:l.length≤9) (h:∀ g ∈ l,g.frm≠g.to∧-99≤f g∧f g≤99):∀ x ∈ pullL f l m,-891≤x∧x≤891:=by
 intro x hx;obtain ⟨i,_,rfl⟩:=List.mem_map.1 hx;have:=zaek ((i:Int)+1) h
 omega
theorem zahq {l:List Lg} {m:Nat} (hl:l.length≤9) {r:List Int} (hr:r ∈ linkM l m):∀ x ∈ r,-9≤x∧x≤9:=by
 intro x hx;obtain ⟨i,_,rfl⟩:=List.mem_map.1 hr;obtain ⟨j,_,rfl⟩:=List.mem_map.1 hx;have:=zaft l ((i:Int)+1) ((j:Int)+1)
 omega
theorem zael {l:List Lg} {m:Nat} {r:List Int} (hr:r ∈ linkM l m):r.length=m:=by
 obtain ⟨i,_,rfl⟩:=List.mem_map.1 hr
 exact zaq9 l m i
theorem zawg {l:List Lg} {m:Nat} (hl:l.length≤9) (hm:m≤5):MatV (linkM l m) :=
 ⟨by rw [zaar];exact hm,fun r hr=>by rw [zaar];exact zael hr,fun r hr x hx=>by have:=zahq hl hr x hx;omega⟩
theorem zawh {l:List Lg} {m:Nat} (hl:l.length≤9) (hm:m≤5):MatIn 936 (linkM l m):=by
 refine ⟨fun r hr=>by rw [zaar];exact zael hr,fun r hr=>?_⟩
 rw [zaar]
 have:=zaey (r:=nth r) (B:=9) (List.range' 0 m) fun j hj=>by
  have:=zahq hl hr _ (zaaf (k:=j) (by rw [zael hr];exact mem_range0.1 hj))
  omega
 simp only [List.length_range'] at this
 omega
theorem zao3 {l:List Lg} {m c:Nat} {y:List Int} (hl:l.length≤9) (hm:m≤5) (hy:y.length=m) (h:∀ x ∈ y,-891≤x∧x≤891) (hc:c<m):MatIn 936 (setCol c y (linkM l m)):=by
 refine ⟨fun r hr=>?_,fun r hr=>?_⟩
 · obtain ⟨i,hi,rfl⟩:=zaez hr
   rw [List.length_set,zabg,zaar]
   exact zael (zaaf hi)
 · rw [zabg,zaar]
   obtain ⟨i,hi,rfl⟩:=zaez hr
   have hi':i<m:=by rw [zaar] at hi;exact hi
   have hlen:=zael (zaaf hi)
   have:=zamm (r:=nth ((nth (linkM l m) i).set c (nth y i))) (B:=9) (X:=891) (c:=c) (List.range' 0 m) List.nodup_range' (fun j hj hne=>by
    rw [zaav (by rw [hlen];exact mem_range0.1 hj),if_neg (Ne.symm hne)];have:=zahq hl (zaaf hi) _ (zaaf (k:=j) (by rw [hlen];exact mem_range0.1 hj))
    omega) (by
    rw [zaav (by rw [hlen];exact hc),if_pos rfl];have:=h _ (zaaf (k:=i) qO)
    omega)
   simp only [List.length_range'] at this
   omega
theorem zayg {k:Nat} (h:k≤5):936 ^ k≤1000000000000000:=Nat.le_trans (Nat.pow_le_pow_right (by decide) h) (by decide)
theorem zakh {M:List (List Int)} (h:MatIn 936 M) (h5:M.length≤5) : -1000000000000000≤detL M∧detL M≤1000000000000000:=by
 have h1:=h.le;have h2:=zayg h5
 omega
theorem zarb {l:List Lg} {m:Nat} {y:List Int} (hl:l.length≤9) (hm:m≤5) (hy:y.length=m) (h:∀ x ∈ y,-891≤x∧x≤891):∀ c,c<m→-1000000000000000≤nth (solveL (linkM l m) y) c∧nth (solveL (linkM l m) y) c≤1000000000000000:=by
 intro c hc;rw [zakg (by rw [zaar];exact hc)]
 exact zakh (zao3 hl hm hy h hc) (by rw [zabg,zaar];exact hm)
def dg (a:Fin 10):UInt8:=UInt8.ofNat (48+a.val)
def eqOk (e:Lib.NumEnd Int) (n:Int):Bool:=match e with|.ok m=>m == n | _=>false
theorem zag8 {e:Lib.NumEnd Int} {n:Int} (h:eqOk e n=true):e=.ok n:=by
 cases e with
 | ok m=>simp only [eqOk,beq_iff_eq] at h;rw [h]
 | _=>cases h
theorem w1:∀ a:Fin 10,Lib.itoa (a.val:Int)=[dg a]∧eqOk (Lib.atoiAll [dg a]) (a.val:Int)=true:=by decide +kernel
theorem w2:∀ a b:Fin 10,a≠0→Lib.itoa ((10*a.val+b.val:Nat):Int)=[dg a,dg b]∧eqOk (Lib.atoiAll [dg a,dg b]) ((10*a.val+b.val:Nat):Int)=true:=by decide +kernel
theorem w3:∀ a b c:Fin 10,a≠0→Lib.itoa ((100*a.val+10*b.val+c.val:Nat):Int)=[dg a,dg b,dg c]∧eqOk (Lib.atoiAll [dg a,dg b,dg c]) ((100*a.val+10*b.val+c.val:Nat):Int)=true:=by decide +kernel
theorem w4:∀ a b c d:Fin 10,a≠0→Lib.itoa ((1000*a.val+100*b.val+10*c.val+d.val:Nat):Int)=[dg a,dg b,dg c,dg d]∧eqOk (Lib.atoiAll [dg a,dg b,dg c,dg d]) ((1000*a.val+100*b.val+10*c.val+d.val:Nat):Int)=true:=by decide +kernel
theorem zaqp:∀ a:Fin 10,(dg a).toNat=48+a.val:=by decide +kernel
theorem dg_of {c:UInt8} (h:48≤c.toNat∧c.toNat≤57):∃ a:Fin 10,c=dg a:=by
 refine ⟨⟨c.toNat - 48,by omega⟩,UInt8.toNat_inj.1 ?_⟩;rw [zaqp]
 show c.toNat=48+(c.toNat - 48)
 omega
theorem zaa8 (n:Int) (a:Fin 10) (r:List UInt8):digF n (dg a :: r)=digF (10*n+(a.val:Int)) r:=by
 rw [digF,zaqp,if_neg qO]
 congr 1
 omega
theorem zacf {n:Int} {c:UInt8} {r:List UInt8} (h:0≤digF n (c :: r)):∃ a:Fin 10,c=dg a:=by
 rw [digF] at h
 split at h
 · omega
 · exact dg_of qO
theorem zamb {a:Fin 10} {r:List UInt8} (h:¬ (dg a :: r).head?=some 48):a≠0:=by
 rintro rfl
 exact h rfl
theorem zavr {l:List UInt8} {n:Int} (h:digL l=n) (h0:0≤n):l=Lib.itoa n∧Lib.atoiAll l=.ok n:=by
 unfold digL at h
 split at h
 · omega
 · rename_i hc
   match l,hc,h with
   | [],hc,_=>simp at hc
   | [c1],_,h =>
     obtain ⟨a,rfl⟩:=zacf (by omega:0≤digF 0 [c1]);rw [zaa8,digF] at h;obtain ⟨g1,g2⟩:=w1 a;have e:n=(a.val:Int):=qO;rw [e]
     exact ⟨g1.symm,zag8 g2⟩
   | [c1,c2],hc,h =>
     obtain ⟨a,rfl⟩:=zacf (by omega:0≤digF 0 [c1,c2]);rw [zaa8] at h;obtain ⟨b,rfl⟩:=zacf (by omega:0≤digF (10*0+(a.val:Int)) [c2]);rw [zaa8,digF] at h
     obtain ⟨g1,g2⟩:=w2 a b (zamb fun e=>hc (.inr (.inr ⟨by simp,e⟩)))
     have e:n=((10*a.val+b.val:Nat):Int):=qO;rw [e]
     exact ⟨g1.symm,zag8 g2⟩
   | [c1,c2,c3],hc,h =>
     obtain ⟨a,rfl⟩:=zacf (by omega:0≤digF 0 [c1,c2,c3]);rw [zaa8] at h;obtain ⟨b,rfl⟩:=zacf (by omega:0≤digF (10*0+(a.val:Int)) [c2,c3]);rw [zaa8] at h;obtain ⟨c,rfl⟩:=zacf (by omega:0≤digF (10*(10*0+(a.val:Int))+(b.val:Int)) [c3]);rw [zaa8,digF] at h
     obtain ⟨g1,g2⟩:=w3 a b c (zamb fun e=>hc (.inr (.inr ⟨by simp,e⟩)))
     have e:n=((100*a.val+10*b.val+c.val:Nat):Int):=qO;rw [e]
     exact ⟨g1.symm,zag8 g2⟩
   | [c1,c2,c3,c4],hc,h =>
     obtain ⟨a,rfl⟩:=zacf (by omega:0≤digF 0 [c1,c2,c3,c4]);rw [zaa8] at h;obtain ⟨b,rfl⟩:=zacf (by omega:0≤digF (10*0+(a.val:Int)) [c2,c3,c4]);rw [zaa8] at h;obtain ⟨c,rfl⟩:=zacf (by omega:0≤digF (10*(10*0+(a.val:Int))+(b.val:Int)) [c3,c4]);rw [zaa8] at h;obtain ⟨d,rfl⟩:=zacf (by omega:0≤digF (10*(10*(10*0+(a.val:Int))+(b.val:Int))+(c.val:Int)) [c4]);rw [zaa8,digF] at h
     obtain ⟨g1,g2⟩:=w4 a b c d (zamb fun e=>hc (.inr (.inr ⟨by simp,e⟩)))
     have e:n=((1000*a.val+100*b.val+10*c.val+d.val:Nat):Int):=qO;rw [e]
     exact ⟨g1.symm,zag8 g2⟩
   | _ :: _ :: _ :: _ :: _ :: _,hc,_=>simp at hc
theorem zaf5 {a:Fin 10} {r:List UInt8} (hr:r.length≤3) (h:r=[]∨a≠0):digL (dg a :: r)=digF 0 (dg a :: r):=by
 unfold digL;rw [if_neg];rintro (h1|h1|⟨h1,h2⟩)
 · simp at h1
 · simp at h1;omega
 · rcases h with rfl|h
   · simp at h1
   · have:dg a=48:=by simpa using h2
     have h3:=congrArg UInt8.toNat this;rw [zaqp] at h3
     have h4:a.val=0:=by
      have:(48:UInt8).toNat=48:=rfl
      omega
     exact h (Fin.ext h4)
theorem zaes (k:Nat) (h:k<10):∃ a:Fin 10,a.val=k:=⟨⟨k,h⟩,rfl⟩
theorem zadd {a:Fin 10} {k:Nat} (h:a.val=k) (h0:0<k):a≠0:=by rintro rfl;simp at h;omega
theorem zanf {n:Int} (h0:0≤n) (h1:n≤9999):digL (Lib.itoa n)=n:=by
 obtain ⟨k,rfl⟩:∃ k:Nat,n=k:=⟨n.toNat,by omega⟩;obtain ⟨a,ha⟩:=zaes (k / 1000) qO;obtain ⟨b,hb⟩:=zaes (k / 100 % 10) qO;obtain ⟨c,hc⟩:=zaes (k / 10 % 10) qO;obtain ⟨d,hd⟩:=zaes (k % 10) qO
 by_cases h4:1000≤k
 · have e:(k:Int)=((1000*a.val+100*b.val+10*c.val+d.val:Nat):Int):=by omega
   rw [e,(w4 a b c d (zadd ha qO)).1,zaf5 qP (.inr (zadd ha qO)),zaa8,zaa8,zaa8,zaa8,digF]
   omega
 · by_cases h3:100≤k
   · have e:(k:Int)=((100*b.val+10*c.val+d.val:Nat):Int):=by omega
     rw [e,(w3 b c d (zadd hb qO)).1,zaf5 qP (.inr (zadd hb qO)),zaa8,zaa8,zaa8,digF]
     omega
   · by_cases h2:10≤k
     · have e:(k:Int)=((10*c.val+d.val:Nat):Int):=by omega
       rw [e,(w2 c d (zadd hc qO)).1,zaf5 qP (.inr (zadd hc qO)),zaa8,zaa8,digF]
       omega
     · have e:(k:Int)=((d.val:Nat):Int):=by omega
       rw [e,(w1 d).1,zaf5 qP (.inl rfl),zaa8,digF]
       omega
theorem zaxi {l:List UInt8} (h0:0≤rdL l) (h1:rdL l≤9998):digL l=rdL l:=by
 unfold rdL at h0 h1 ⊢
 split
 · rename_i h;rw [if_pos h] at h0;omega
 · rename_i h
   rw [if_neg h] at h0 h1
   split
   · rename_i h2;rw [if_pos h2] at h1;omega
   · rfl
theorem zaxj {l:List UInt8} (h0:0≤rdL l) (h1:rdL l≤9998):l=Lib.itoa (rdL l)∧Lib.atoiAll l=.ok (rdL l):=zavr (zaxi h0 h1) h0
theorem zavs {n:Int} (h0:0≤n) (h1:n≤9999):(Lib.itoa n).head?≠some 45:=by
 intro h;have h2:=zanf h0 h1
 cases hl:Lib.itoa n with
 | nil=>rw [hl] at h;cases h
 | cons c r =>
   rw [hl] at h h2;simp only [List.head?_cons,Option.some.injEq] at h;subst h;unfold digL at h2
   split at h2
   · omega
   · have h4:digF 0 (45 :: r) = -1:=by rw [digF];exact if_pos (.inl (by decide))
     rw [h4] at h2;omega
theorem zavt {n:Int} (h0:0≤n) (h1:n≤9998):rdL (Lib.itoa n)=n:=by
 have h:=zanf h0 qO;have h2:=zavs h0 qO;unfold rdL
 rw [if_neg (fun e=>h2 e.2.1),if_neg qO,h]
def wordW:List UInt8:=[119,104,101,114,101]
def preW:List UInt8:=[119,104,101,114,101,32]
def whereF (l:List UInt8):Option Int:=if l.take 6=preW∧0≤rdL (l.drop 6)∧rdL (l.drop 6)≤9998 then some (rdL (l.drop 6)) else none
theorem zagf {l:List UInt8} {n:Int} (h:whereF l=some n):l=preW ++ Lib.itoa n∧0≤n∧n≤9998∧l.drop 6=Lib.itoa n∧Lib.atoiAll (l.drop 6)=.ok n∧rdL (l.drop 6)=n:=by
 unfold whereF at h
 split at h
 · rename_i hc
   obtain ⟨h1,h2,h3⟩:=hc;obtain ⟨g1,g2⟩:=zaxj h2 h3
   have e:rdL (l.drop 6)=n:=by simpa using h
   rw [e] at g1 g2 h2 h3;refine ⟨?_,h2,h3,g1,g2,e⟩;rw [← g1,← h1,List.take_append_drop]
 · cases h
theorem zar0 {l:List UInt8} (h:whereF l=none) (h1:l.take 6=preW):∀ v:Int,Lib.atoiAll (l.drop 6)=.ok v→¬ (0≤v∧v<9999∧Lib.itoa v=l.drop 6):=by
 rintro v - ⟨h2,h3,h4⟩;have h5:=zavt h2 qO;unfold whereF at h;rw [← h4,h5,if_pos ⟨h1,h2,by omega⟩] at h
 cases h
theorem zavu {n:Int} (h0:0≤n) (h1:n≤9998):(32:UInt8) ∉ Lib.itoa n:=by
 obtain ⟨k,rfl⟩:∃ k:Nat,n=k:=⟨n.toNat,by omega⟩
 have hdg:∀ a:Fin 10,(32:UInt8)≠dg a:=by decide +kernel
 obtain ⟨a,ha⟩:=zaes (k / 1000) qO;obtain ⟨b,hb⟩:=zaes (k / 100 % 10) qO;obtain ⟨c,hc⟩:=zaes (k / 10 % 10) qO;obtain ⟨d,hd⟩:=zaes (k % 10) qO
 by_cases h4:1000≤k
 · have e:(k:Int)=((1000*a.val+100*b.val+10*c.val+d.val:Nat):Int):=by omega
   rw [e,(w4 a b c d (zadd ha qO)).1]
   simp [hdg]
 · by_cases h3:100≤k
   · have e:(k:Int)=((100*b.val+10*c.val+d.val:Nat):Int):=by omega
     rw [e,(w3 b c d (zadd hb qO)).1]
     simp [hdg]
   · by_cases h2:10≤k
     · have e:(k:Int)=((10*c.val+d.val:Nat):Int):=by omega
       rw [e,(w2 c d (zadd hc qO)).1]
       simp [hdg]
     · have e:(k:Int)=((d.val:Nat):Int):=by omega
       rw [e,(w1 d).1]
       simp [hdg]
theorem zar1 {l:List UInt8} {n:Int} (h:whereF l=some n):cutL 32 l=[wordW,Lib.itoa n]∧rdL (Lib.itoa n)=n:=by
 obtain ⟨h1,h2,h3,h4,-,h6⟩:=zagf h;refine ⟨?_,by rw [← h4];exact h6⟩;rw [h1,show preW ++ Lib.itoa n=wordW ++ 32 :: Lib.itoa n from rfl,zaaz _ (by decide),zabb (zavu h2 h3)]
theorem zaxk {c:UInt8} {l p q:List UInt8} (h:cutL c l=[p,q]):l=p ++ c :: q:=by
 by_cases hc:c ∈ l
 · obtain ⟨a,r,rfl,ha⟩:=List.eq_append_cons_of_mem hc
   rw [zaaz r ha] at h;simp only [List.cons.injEq] at h;obtain ⟨rfl,h⟩:=h
   by_cases hr:c ∈ r
   · obtain ⟨b,t,rfl,hb⟩:=List.eq_append_cons_of_mem hr
     rw [zaaz t hb] at h;simp only [List.cons.injEq] at h;have:=zal6 c t
     exact absurd h.2 this
   · rw [zabb hr] at h
     simp only [List.cons.injEq,and_true] at h;rw [h]
 · rw [zabb hc] at h
   simp at h
theorem zaxl {l q:List UInt8} (h:whereF l=none) (h1:cutL 32 l=[wordW,q]):rdL q<0∨9998<rdL q:=by
 have e:=zaxk h1
 have e1:l.take 6=preW:=by rw [e];rfl
 have e2:l.drop 6=q:=by rw [e];rfl
 unfold whereF at h;rw [e2] at h
 rcases Int.lt_or_le (rdL q) 0 with g|g
 · exact .inl g
 · rcases Int.lt_or_le 9998 (rdL q) with g2|g2
   · exact .inr g2
   · rw [if_pos ⟨e1,g,g2⟩] at h;cases h
def partsC (s:Sv):Int:=if svOk s then (partsN (partsOf s.st.toNat s.legs) s.st.toNat:Int) else -1
def loopsF (s:Sv):Int:=if svOk s then (s.legs.length:Int) - s.st+partsC s else -1
def treesF (s:Sv):Int:=if svOk s then detL (linkM s.legs (s.st.toNat - 1)) else -1
def ClosesP (s:Sv):Prop:=∀ g ∈ s.legs,∀ f,(f=Lg.east∨f=Lg.north∨f=Lg.up)→∀ q,Pot f (legsAt s.legs (treeS s)) q→q g.frm+f g=q g.to
open Classical in
noncomputable def closesF (s:Sv):Bool:=svOk s && decide (ClosesP s)
structure Wy where
 e:Int
 n:Int
 u:Int
 deriving DecidableEq,Inhabited
def fixNum (f:Lg→Int) (s:Sv) (i:Nat):Int:=nth (solveL (linkM s.legs (s.st.toNat - 1)) (pullL f s.legs (s.st.toNat - 1))) i
def fixW (s:Sv) (i:Nat):Wy:=⟨fixNum Lg.east s i,fixNum Lg.north s i,fixNum Lg.up s i⟩
def fixNums (s:Sv):List Wy:=⟨0,0,0⟩ :: (List.range (s.st.toNat - 1)).map (fixW s)
def linked (s:Sv):Bool:=svOk s && decide (partsC s=1)
theorem zaij {s:Sv} (h:1≤s.st):((fixNums s).length:Int)=s.st:=by simp [fixNums];omega
def okB:ByteArray:=⟨#[111,107]⟩
def noB:ByteArray:=⟨#[110,111]⟩
def whatB:ByteArray:=⟨#[119,104,97,116]⟩
def yesB:ByteArray:=⟨#[121,101,115]⟩
def unkB:ByteArray:=⟨#[117,110,107,110,111,119,110]⟩
def doneB (b:Bool):ByteArray:=if b then okB else noB
def nowT:ByteArray:=⟨#[110,111,119]⟩
def loopsT:ByteArray:=⟨#[108,111,111,112,115]⟩
def treesT:ByteArray:=⟨#[116,114,101,101,115]⟩
def closesT:ByteArray:=⟨#[99,108,111,115,101,115]⟩
def undoT:ByteArray:=⟨#[117,110,100,111]⟩
def redoT:ByteArray:=⟨#[114,101,100,111]⟩
def placeB (s:Sv) (n:Int):ByteArray:=wayB (nth (fixNums s) n.toNat).e (nth (fixNums s) n.toNat).n (nth (fixNums s) n.toNat).u ++ ⟨#[47]⟩ ++ itoaB (treesF s)
def whereB (s:Sv) (n:Int):ByteArray:=if linked s=true∧n<s.st then placeB s n else unkB
noncomputable def askF (s:Sv) (line:ByteArray):ByteArray :=
 if line=nowT then surveyB s
 else if line=loopsT then itoaB (loopsF s)
 else if line=treesT then itoaB (treesF s)
 else if line=closesT then (if closesF s then yesB else noB)
 else match whereF line.data.toList with
  | some n=>whereB s n
  | none=>whatB
noncomputable def lineF (b:Bk) (line:ByteArray):Bk × ByteArray :=
 if bkOk b then
  if (rdDdD line).2 then ((bkDo b (rdDdD line).1).1,doneB (bkDo b (rdDdD line).1).2)
  else if line=undoT then ((bkUndo b).1,doneB (bkUndo b).2)
  else if line=redoT then ((bkRedo b).1,doneB (bkRedo b).2)
  else (b,askF (bkNow b) line)
 else (zeroBk,⟨#[]⟩)
noncomputable def linesF:Bk→List ByteArray→Bk × List ByteArray
 | b,[]=>(b,[])
 | b,l :: ls=>((linesF (lineF b l).1 ls).1,(lineF b l).2 :: (linesF (lineF b l).1 ls).2)
theorem st_in {s:Sv} (h:svOk s=true):1≤s.st∧s.st≤6∧s.legs.length≤9:=by
 obtain ⟨h1,h2,h3,-⟩:=svOk_iff.1 h
 exact ⟨h1,h2,h3⟩
theorem zagn {s:Sv} (h:svOk s=true):MatV (linkM s.legs (s.st.toNat - 1)):=by
 have:=st_in h
 exact zawg this.2.2 qO
theorem zafm {s:Sv} (h:svOk s=true) {g:Lg} (hg:g ∈ s.legs):legOk s.st g=true:=by
 obtain ⟨-,-,-,h4⟩:=svOk_iff.1 h
 exact List.all_eq_true.1 h4 g hg
theorem zacb {s:Sv} (h:svOk s=true):∀ g ∈ s.legs,EdgeIn (s.st.toNat - 1+1) g∧g.frm≠g.to:=fun g hg=>by
 have h1:=st_in h;have h2:=zafm h hg;rw [show s.st.toNat - 1+1=s.st.toNat by omega]
 exact ⟨zads h2,zap3 h2⟩
theorem zabj {s:Sv} (h:svOk s=true):∀ g ∈ s.legs,(-99≤g.east∧g.east≤99)∧(-99≤g.north∧g.north≤99)∧(-99≤g.up∧g.up≤99):=fun g hg=>by
 have h2:=zafm h hg;simp only [legOk,isIdx,isIn,Bool.and_eq_true,decide_eq_true_eq,Bool.not_eq_true',Bool.or_eq_false_iff,decide_eq_false_iff_not] at h2
 omega
theorem zaei {s:Sv} (h:svOk s=true) : -1000000000000000≤treesF s∧treesF s≤1000000000000000:=by
 have h1:=st_in h;unfold treesF;rw [if_pos h]
 exact zakh (zawh h1.2.2 qO) (by rw [zaar];omega)
theorem zahh {s:Sv} (h:svOk s=true):0≤partsC s∧partsC s≤6:=by
 have h1:=st_in h;unfold partsC;rw [if_pos h];have:=zafv (partsOf s.st.toNat s.legs) s.st.toNat
 omega
theorem zaik {s:Sv} (h:svOk s=true) : -6≤loopsF s∧loopsF s≤15:=by
 have h1:=st_in h;have h2:=zahh h;unfold loopsF;rw [if_pos h]
 omega
theorem zafa {s:Sv} (h:svOk s=true) {f:Lg→Int} (hf:f=Lg.east∨f=Lg.north∨f=Lg.up) {i:Nat} (hi:i<s.st.toNat - 1) : -1000000000000000≤fixNum f s i∧fixNum f s i≤1000000000000000:=by
 have h1:=st_in h
 refine zarb h1.2.2 qO (zafw _ _ _) (zajh h1.2.2 fun g hg=>?_) i hi
 have h3:=(zacb h g hg).2;have h4:=zabj h g hg
 rcases hf with rfl|rfl|rfl
 · exact ⟨h3,h4.1⟩
 · exact ⟨h3,h4.2.1⟩
 · exact ⟨h3,h4.2.2⟩
theorem linked_iff {s:Sv}:linked s=true↔svOk s=true∧partsC s=1:=by simp [linked]
theorem zamc {s:Sv} (h:linked s=true):0<treesF s:=by
 obtain ⟨h1,h2⟩:=linked_iff.1 h;have h3:=st_in h1;have hE:=zacb h1;unfold treesF;rw [if_pos h1]
 refine zanp hE fun x h0 hx=>?_
 unfold partsC at h2;rw [if_pos h1] at h2
 have hp:=zahr (n:=s.st.toNat) s.legs fun g hg=>by
  have:=(hE g hg).1
  rwa [show s.st.toNat - 1+1=s.st.toNat by omega] at this
 exact zas2 hp qO qO x h0 qO
end Go.Proofs.YthfoloefkfadlaaGreatDoor
