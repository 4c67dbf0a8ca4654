/- Plain law of a search through a tree of legs, breadth first: what stays true, step by step; and of the way back. No program. -/
import Derived.Test.YthfoloefkfadlaaGreatDoorK1
import Derived.Test.YthfoloefkfadlaaGreatDoorP1
import Derived.Test.YthfoloefkfadlaaGreatDoorT2
import Derived.Test.YthfoloefkfadlaaGreatDoorB1
set_option linter.unusedSimpArgs false
set_option linter.unusedVariables false
namespace Go.Proofs.YthfoloefkfadlaaGreatDoor
open Go Go.RowKit
inductive Chn (l:List Lg) (use:List Nat):Int→Int→List Stp→Prop
 | here (a:Int):Chn l use a a []
 | go {a c:Int} {s:Stp} {st:List Stp}:s.ix ∈ use→s.beg l=a→Chn l use (s.fin l) c st→Chn l use a c (s :: st)
theorem Chn.sum {f:Lg→Int} {l:List Lg} {use:List Nat} {q:Int→Int} (hq:Pot f (legsAt l use) q) {a c:Int} {st:List Stp} (h:Chn l use a c st):wayOf f l st=q c - q a:=by
 induction h with
 | here=>simp [wayOf]
 | @go a c s st h1 h2 h4 ih =>
   have:=hq (nth l s.ix) (List.mem_map.2 ⟨_,h1,rfl⟩);subst h2;unfold wayOf at ih ⊢;rw [List.map_cons,List.sum_cons,ih]
   cases hb:s.back <;> simp only [Stp.way,Stp.beg,Stp.fin,hb,if_true,if_false,Bool.false_eq_true] <;> omega
theorem Chn.at {l:List Lg} {use:List Nat} {a c:Int} {st:List Stp} (h:Chn l use a c st):∀ k,k<st.length→(nth st k).ix ∈ use∧(nth st k).beg l=if k=0 then a else (nth st (k - 1)).fin l:=by
 induction h with
 | here=>intro k hk;simp at hk
 | @go a c s st h1 h2 h4 ih =>
   intro k hk
   cases k with
   | zero=>exact ⟨h1,h2⟩
   | succ k =>
     have hk':k<st.length:=by simpa using hk
     obtain ⟨g1,g2⟩:=ih k hk'
     have e:nth (s :: st) (k+1)=nth st k:=by simp [nth]
     rw [e]
     refine ⟨g1,?_⟩
     rw [if_neg qO,g2]
     cases k with
     | zero=>rfl
     | succ k=>rw [if_neg qO];simp [nth]
def upS (C:Nat→Stp) (v:Nat) (s:Stp):Nat→Stp:=fun x=>if x=v then s else C x
structure TInv (n s:Nat) (l:List Lg) (use:List Nat) (C:Nat→Stp) (ord:List Nat) (p:Nat):Prop where
 nodup:ord.Nodup
 lt:∀ v ∈ ord,v<n
 head:ord[0]?=some s
 par:∀ (i v:Nat),ord[i]?=some v→0<i→∃ j u,j<i∧ord[j]?=some u∧(C v).ix ∈ use∧(C v).fin l=(v:Int)∧(C v).beg l=(u:Int)
 done:∀ (j u:Nat),j<p→ord[j]?=some u→∀ st:Stp,st.ix ∈ use→st.beg l=(u:Int)→∃ v ∈ ord,st.fin l=(v:Int)
theorem TInv.first {n s:Nat} {l:List Lg} {use:List Nat} (C:Nat→Stp) (hs:s<n):TInv n s l use C [s] 0 where
 nodup:=qP
 lt:=by intro v hv;simp at hv;omega
 head:=rfl
 par:=by intro i v h h0;match i,h0 with|i+1,_=>simp at h
 done:=by intro j u h;omega
theorem zaw0:∀ {N:Nat} {l:List Nat},l.Nodup→(∀ v ∈ l,v<N)→l.length≤N:=by
 intro N
 induction N with
 | zero =>
   intro l _ hl
   cases l with
   | nil=>exact Nat.le_refl _
   | cons x l=>have:=hl x qP;omega
 | succ N ih =>
   intro l hn hl
   have h1:=ih (hn.erase N) fun v hv=>by
    obtain ⟨h2,h3⟩:=(hn.mem_erase_iff).1 hv;have:=hl v h3
    omega
   rw [List.length_erase] at h1
   split at h1 <;> omega
section
variable {n s:Nat} {l:List Lg} {use:List Nat} {C:Nat→Stp} {ord:List Nat} {p:Nat}
theorem TInv.len (h:TInv n s l use C ord p):ord.length≤n:=zaw0 h.nodup h.lt
theorem TInv.add (h:TInv n s l use C ord p) {u v:Nat} {st:Stp} (hu:ord[p]?=some u) (hv:v<n) (hn:v ∉ ord) (h1:st.ix ∈ use) (h2:st.fin l=(v:Int)) (h3:st.beg l=(u:Int)):TInv n s l use (upS C v st) (ord ++ [v]) p where
 nodup:=by
  rw [List.nodup_append]
  exact ⟨h.nodup,by simp,fun a ha b hb=>by simp at hb;subst hb;exact fun e=>hn (e▸ha)⟩
 lt:=by
  intro x hx
  rcases List.mem_append.1 hx with hx|hx
  · exact h.lt x hx
  · simp at hx;omega
 head:=by rw [List.getElem?_append_left (by have:=(List.getElem?_eq_some_iff.1 h.head).1;omega)];exact h.head
 par:=by
  intro i x hi h0;have hp:p<ord.length:=(List.getElem?_eq_some_iff.1 hu).1
  by_cases hlt:i<ord.length
  · rw [List.getElem?_append_left hlt] at hi
    obtain ⟨j,y,g1,g2,g3⟩:=h.par i x hi h0
    refine ⟨j,y,g1,by rw [List.getElem?_append_left qO];exact g2,?_⟩
    have:x≠v:=by intro e;subst e;exact hn (List.mem_of_getElem? hi)
    unfold upS;rw [if_neg this];exact g3
  · rw [List.getElem?_append_right qO] at hi
    have g1:=(List.getElem?_eq_some_iff.1 hi).1
    simp at g1
    have e:i - ord.length=0:=qO;rw [e] at hi
    simp at hi
    subst hi
    refine ⟨p,u,by omega,by rw [List.getElem?_append_left hp];exact hu,?_⟩
    unfold upS;rw [if_pos rfl];exact ⟨h1,h2,h3⟩
 done:=by
  intro j y hj hy t ht hb;have hp:p<ord.length:=(List.getElem?_eq_some_iff.1 hu).1;rw [List.getElem?_append_left qO] at hy;obtain ⟨v',g1,g2⟩:=h.done j y hj hy t ht hb
  exact ⟨v',List.mem_append_left _ g1,g2⟩
theorem TInv.next (h:TInv n s l use C ord p) {u:Nat} (hu:ord[p]?=some u) (hd:∀ st:Stp,st.ix ∈ use→st.beg l=(u:Int)→∃ v ∈ ord,st.fin l=(v:Int)):TInv n s l use C ord (p+1) :=
 { h with
   done:=by
    intro j y hj hy
    by_cases e:j=p
    · subst e;rw [hu] at hy;cases hy;exact hd
    · exact h.done j y qO hy }
theorem TInv.all (h:TInv n s l use C ord p) (hp:ord.length≤p) {x y:Int} (hr:Reach (legsAt l use) x y):∀ u ∈ ord,x=(u:Int)→∃ v ∈ ord,y=(v:Int):=by
 induction hr with
 | here a=>intro u hu e;exact ⟨u,hu,e⟩
 | @go a b c lk _ ih =>
   intro u hu e;obtain ⟨g,hg,hd⟩:=lk;obtain ⟨i,hi,rfl⟩:=List.mem_map.1 hg;obtain ⟨j,hj⟩:=List.getElem?_of_mem hu;have hjl:=(List.getElem?_eq_some_iff.1 hj).1
   obtain ⟨st,hs1,hs2,hs3⟩:∃ st:Stp,st.ix ∈ use∧st.beg l=a∧st.fin l=b:=by
    rcases hd with ⟨e1,e2⟩|⟨e1,e2⟩
    · exact ⟨⟨i,false⟩,hi,e1,e2⟩
    · exact ⟨⟨i,true⟩,hi,e1,e2⟩
   obtain ⟨v,hv,hvf⟩:=h.done j u qO hj st hs1 (by rw [hs2,e])
   exact ih v hv (by rw [← hs3,hvf])
theorem TInv.back (h:TInv n s l use C ord p) {v:Nat} (hv:v ∈ ord) (hne:v≠s):∃ u ∈ ord,(C v).ix ∈ use∧(C v).fin l=(v:Int)∧(C v).beg l=(u:Int)∧ord.idxOf u<ord.idxOf v:=by
 have hi:=List.idxOf_lt_length_of_mem hv
 have e:ord[ord.idxOf v]?=some v:=by rw [List.getElem?_eq_getElem hi,List.getElem_idxOf]
 have h0:0<ord.idxOf v:=by
  rcases Nat.eq_zero_or_pos (ord.idxOf v) with e0|e0
  · rw [e0,h.head] at e;cases e;exact absurd rfl hne
  · exact e0
 obtain ⟨j,u,h1,h2,h3,h4,h5⟩:=h.par _ v e h0
 refine ⟨u,List.mem_of_getElem? h2,h3,h4,h5,?_⟩
 obtain ⟨hj,hju⟩:=List.getElem?_eq_some_iff.1 h2;have e2:=h.nodup.idxOf_getElem j hj;rw [hju] at e2;rw [e2];exact h1
theorem TInv.start (h:TInv n s l use C ord p):s ∈ ord:=List.mem_of_getElem? h.head
theorem TInv.idx (h:TInv n s l use C ord p) {v:Nat} (hv:v ∈ ord):ord.idxOf v<n:=Nat.lt_of_lt_of_le (List.idxOf_lt_length_of_mem hv) h.len
end
def Seen (l:List Lg) (use:List Nat) (u:Nat) (ord:List Nat) (i:Nat):Prop:=∀ st:Stp,(∃ j,j<i∧st.ix=nth use j)→st.beg l=(u:Int)→∃ v ∈ ord,st.fin l=(v:Int)
def SeenF (l:List Lg) (q:Nat) (u:Nat) (ord:List Nat) (b:Bool):Prop:=∀ st:Stp,st.ix=q→st.back=b→st.beg l=(u:Int)→∃ v ∈ ord,st.fin l=(v:Int)
theorem Seen.zero (l:List Lg) (use:List Nat) (u:Nat) (ord:List Nat):Seen l use u ord 0:=by rintro st ⟨j,hj,-⟩;omega
theorem Seen.more {l:List Lg} {use:List Nat} {u:Nat} {ord:List Nat} {i:Nat} (h:Seen l use u ord i) (w:Nat):Seen l use u (ord ++ [w]) i:=fun st h1 h2=>by
 obtain ⟨v,hv,e⟩:=h st h1 h2
 exact ⟨v,List.mem_append_left _ hv,e⟩
theorem SeenF.more {l:List Lg} {q u:Nat} {ord:List Nat} {b:Bool} (h:SeenF l q u ord b) (w:Nat):SeenF l q u (ord ++ [w]) b:=fun st h0 h1 h2=>by
 obtain ⟨v,hv,e⟩:=h st h0 h1 h2
 exact ⟨v,List.mem_append_left _ hv,e⟩
theorem Seen.next {l:List Lg} {use:List Nat} {u:Nat} {ord:List Nat} {i:Nat} (h:Seen l use u ord i) (h1:SeenF l (nth use i) u ord false) (h2:SeenF l (nth use i) u ord true):Seen l use u ord (i+1):=by
 rintro st ⟨j,hj,e⟩ hb
 by_cases hji:j=i
 · subst hji
   cases hs:st.back
   · exact h1 st e hs hb
   · exact h2 st e hs hb
 · exact h st ⟨j,by omega,e⟩ hb
theorem Seen.all {l:List Lg} {use:List Nat} {u:Nat} {ord:List Nat} (h:Seen l use u ord use.length):∀ st:Stp,st.ix ∈ use→st.beg l=(u:Int)→∃ v ∈ ord,st.fin l=(v:Int):=fun st hs hb=>by
 obtain ⟨j,hj⟩:=List.getElem?_of_mem hs;obtain ⟨hj1,hj2⟩:=List.getElem?_eq_some_iff.1 hj
 exact h st ⟨j,hj1,by rw [zacz hj1];exact hj2.symm⟩ hb
theorem zatu (a b:ByteArray):(a ++ b).size=a.size+b.size:=qP
theorem zajb (n:Int):(itoaB n).size≠0:=by
 have h:=zam7 n
 have e:(itoaB n).size=(Lib.itoa n).length:=by simp [itoaB,ByteArray.size]
 omega
theorem zaxm {s:Sv} (h:svOk s=true) (line:ByteArray):(askF s line).size≠0:=by
 unfold askF
 split
 · exact zagd h
 · split
   · exact zajb _
   · split
     · exact zajb _
     · split
       · split <;> decide
       · split
         · unfold whereB
           split
           · unfold placeB wayB
             have:=zajb (treesF s);simp only [zatu]
             omega
           · decide
         · decide
theorem zad7 (b:Bool):(doneB b).size≠0:=by cases b <;> decide
theorem zavv {b:Bk} {d:Dd} (h:(bkDo b d).2=false) (hb:bkOk b=true):(bkDo b d).1=b:=by
 unfold bkDo at h ⊢;rw [if_pos hb] at h ⊢
 split at h
 · cases h
 · rename_i h0;rw [if_neg h0]
structure LineOk (b:Bk) (x:Bk) (t:ByteArray):Prop where
 ok:bkOk x=true
 same:t=okB∨x=b
 first:x.first=b.first
 ne:t.size≠0
theorem zajc {b:Bk} (h:bkOk b=true) (line:ByteArray):LineOk b (lineF b line).1 (lineF b line).2:=by
 unfold lineF;rw [if_pos h]
 split
 · cases hd:(bkDo b (rdDdD line).1).2
   · rw [zavv hd h]
     exact ⟨h,.inr rfl,rfl,zad7 false⟩
   · obtain ⟨-,-,h3,h4,-⟩:=zayk hd
     rw [h3]
     exact ⟨h4,.inl rfl,rfl,zad7 true⟩
 · split
   · by_cases h0:b.done.length=0
     · have e:bkUndo b=(b,false):=by unfold bkUndo;rw [if_pos h,if_pos h0]
       rw [e]
       exact ⟨h,.inr rfl,rfl,zad7 false⟩
     · have h1:=(zap4 h h0).1
       have e:bkUndo b=(⟨b.first,b.done.take (b.done.length - 1),b.undone ++ [nth b.done (b.done.length - 1)]⟩,true):=by unfold bkUndo;rw [if_pos h,if_neg h0]
       rw [e] at h1 ⊢
       exact ⟨h1,.inl rfl,rfl,zad7 true⟩
   · split
     · by_cases h0:b.undone.length=0
       · have e:bkRedo b=(b,false):=by unfold bkRedo;rw [if_pos h,if_pos h0]
         rw [e]
         exact ⟨h,.inr rfl,rfl,zad7 false⟩
       · have h1:=(zawr h h0).2.1
         have e:bkRedo b=(⟨b.first,b.done ++ [nth b.undone (b.undone.length - 1)],b.undone.take (b.undone.length - 1)⟩,true):=by unfold bkRedo;rw [if_pos h,if_neg h0]
         rw [e] at h1 ⊢
         exact ⟨h1,.inl rfl,rfl,zad7 true⟩
     · exact ⟨h,.inr rfl,rfl,zaxm (zaf9 h) line⟩
theorem zamd {b:Bk} (h:bkOk b=false) (line:ByteArray):lineF b line=(zeroBk,⟨#[]⟩):=by unfold lineF;rw [h];rfl
theorem zago:∀ (l1 l2:List ByteArray) (b:Bk),linesF b (l1 ++ l2)=((linesF (linesF b l1).1 l2).1,(linesF b l1).2 ++ (linesF (linesF b l1).1 l2).2)
 | [],_,_=>rfl
 | l :: l1,l2,b=>by
   have ih:=zago l1 l2 (lineF b l).1;rw [List.cons_append,linesF,linesF,ih]
   rfl
theorem zac3:∀ (ls:List ByteArray) (b:Bk),(linesF b ls).2.length=ls.length
 | [],_=>rfl
 | l :: ls,b=>by rw [linesF,List.length_cons,List.length_cons,zac3 ls]
theorem zaqq (ls:List ByteArray) (l:ByteArray) (b:Bk):linesF b (ls ++ [l])=((lineF (linesF b ls).1 l).1,(linesF b ls).2 ++ [(lineF (linesF b ls).1 l).2]):=by
 rw [zago];rfl
theorem zail {ls:List ByteArray} {k:Nat} (h:k<ls.length) (b:Bk):linesF b (ls.take (k+1))=((lineF (linesF b (ls.take k)).1 (nth ls k)).1,(linesF b (ls.take k)).2 ++ [(lineF (linesF b (ls.take k)).1 (nth ls k)).2]):=by
 rw [zabc h,zaqq]
theorem zafn:∀ (ls:List ByteArray) {b:Bk},bkOk b=true→bkOk (linesF b ls).1=true∧(linesF b ls).1.first=b.first∧∀ t ∈ (linesF b ls).2,t.size≠0
 | [],b,h=>⟨h,rfl,fun t ht=>by cases ht⟩
 | l :: ls,b,h=>by
   have h1:=zajc h l;obtain ⟨i1,i2,i3⟩:=zafn ls h1.ok
   refine ⟨i1,i2.trans h1.first,fun t ht=>?_⟩
   rcases List.mem_cons.1 ht with rfl|ht
   · exact h1.ne
   · exact i3 t ht
def undoN (b:Bk):Nat→Bk
 | 0=>b
 | k+1=>(bkUndo (undoN b k)).1
theorem zagp {b:Bk} (h:bkOk b=true):∀ k,k≤b.done.length→bkOk (undoN b k)=true∧(undoN b k).first=b.first∧(undoN b k).done.length=b.done.length - k∧(undoN b k).undone.length=b.undone.length+k
 | 0,_=>⟨h,rfl,rfl,rfl⟩
 | k+1,hk=>by
   obtain ⟨h1,h2,h3,h4⟩:=zagp h k qO;have h0:(undoN b k).done.length≠0:=qO;have h5:=(zap4 h1 h0).1
   have e:bkUndo (undoN b k)=(⟨(undoN b k).first,(undoN b k).done.take ((undoN b k).done.length - 1),(undoN b k).undone ++ [nth (undoN b k).done ((undoN b k).done.length - 1)]⟩,true):=by unfold bkUndo;rw [if_pos h1,if_neg h0]
   rw [undoN]
   refine ⟨h5,by rw [e];exact h2,?_,?_⟩
   · rw [e];simp only [List.length_take];omega
   · rw [e];simp only [List.length_append,List.length_cons,List.length_nil];omega
theorem zatv {b:Bk} (h:bkOk b=true) {k:Nat} (hk:k<b.done.length):bkUndo (undoN b k)=(undoN b (k+1),true):=by
 obtain ⟨h1,h2,h3,h4⟩:=zagp h k qO;have h0:(undoN b k).done.length≠0:=qO;rw [undoN];unfold bkUndo;rw [if_pos h1,if_neg h0]
theorem zatw {b:Bk} (h:bkOk b=true):bkNow (undoN b b.done.length)=b.first:=by
 obtain ⟨h1,h2,h3,h4⟩:=zagp h b.done.length (Nat.le_refl _);have e:(undoN b b.done.length).done=[]:=List.eq_nil_of_length_eq_zero qO;rw [zacc h1,e,h2]
 rfl
theorem zavw {b:Bk} (h:bkOk b=true):bkNow ⟨b.first,b.done,[]⟩=bkNow b:=by
 obtain ⟨h1,h2,h3,h4⟩:=bkOk_iff.1 h;have h5:bkOk ⟨b.first,b.done,[]⟩=true:=bkOk_iff.2 ⟨h1,by simp only [List.length_nil];omega,h3,by simp [runFrom]⟩;rw [zacc h5,zacc h]
end Go.Proofs.YthfoloefkfadlaaGreatDoor
