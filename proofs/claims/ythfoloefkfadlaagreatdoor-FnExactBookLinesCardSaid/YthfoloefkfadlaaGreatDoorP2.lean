/- Plain law of a search through a tree of legs, breadth first: what stays true, step by step; and of the way back. No program. Plain law of lines: a book behind a line is valid, unless the answer is ok it is the book before; lines in two parts; undoing all of them. No program. -/
import Derived.Test.YthfoloefkfadlaaGreatDoorK1
import Derived.Test.YthfoloefkfadlaaGreatDoorP1
import Derived.Test.YthfoloefkfadlaaGreatDoorT2
import Derived.Test.YthfoloefkfadlaaGreatDoorB1
set_option linter.unusedSimpArgs false
set_option linter.unusedVariables false
namespace Go.Proofs.YthfoloefkfadlaaGreatDoor
open Go Go.RowKit

inductive Chn (l:List Lg) (use:List Nat):Int→Int→List Stp→Prop
 | here (a:Int):Chn l use a a []
 | go {a c:Int} {s:Stp} {st:List Stp}:s.ix ∈ use→s.beg l=a→Chn l use (s.fin l) c st→Chn l use a c (s :: st)
theorem Chn.sum {f:Lg→Int} {l:List Lg} {use:List Nat} {q:Int→Int} (hq:Pot f (legsAt l use) q) {a c:Int} {st:List Stp} (h:Chn l use a c st):wayOf f l st=q c - q a:=by
 induction h with
 | here=>simp [wayOf]
 | @go a c s st h1 h2 h4 ih =>
   have:=hq (nth l s.ix) (List.mem_map.2 ⟨_,h1,rfl⟩)
   subst h2
   unfold wayOf at ih ⊢
   rw [List.map_cons,List.sum_cons,ih]
   cases hb:s.back <;> simp only [Stp.way,Stp.beg,Stp.fin,hb,if_true,if_false,Bool.false_eq_true] <;> omega
theorem Chn.at {l:List Lg} {use:List Nat} {a c:Int} {st:List Stp} (h:Chn l use a c st):∀ k,k<st.length→(nth st k).ix ∈ use∧(nth st k).beg l=if k=0 then a else (nth st (k - 1)).fin l:=by
 induction h with
 | here=>intro k hk;simp at hk
 | @go a c s st h1 h2 h4 ih =>
   intro k hk
   cases k with
   | zero=>exact ⟨h1,h2⟩
   | succ k =>
     have hk':k<st.length:=by simpa using hk
     obtain ⟨g1,g2⟩:=ih k hk'
     have e:nth (s :: st) (k+1)=nth st k:=by simp [nth]
     rw [e]
     refine ⟨g1,?_⟩
     rw [if_neg (by omega),g2]
     cases k with
     | zero=>rfl
     | succ k=>rw [if_neg (by omega)];simp [nth]

def upS (C:Nat→Stp) (v:Nat) (s:Stp):Nat→Stp:=fun x=>if x=v then s else C x
structure TInv (n s:Nat) (l:List Lg) (use:List Nat) (C:Nat→Stp) (ord:List Nat) (p:Nat):Prop where
 nodup:ord.Nodup
 lt:∀ v ∈ ord,v<n
 head:ord[0]?=some s
 par:∀ (i v:Nat),ord[i]?=some v→0<i→∃ j u,j<i∧ord[j]?=some u∧(C v).ix ∈ use∧(C v).fin l=(v:Int)∧(C v).beg l=(u:Int)
 done:∀ (j u:Nat),j<p→ord[j]?=some u→∀ st:Stp,st.ix ∈ use→st.beg l=(u:Int)→∃ v ∈ ord,st.fin l=(v:Int)
theorem TInv.first {n s:Nat} {l:List Lg} {use:List Nat} (C:Nat→Stp) (hs:s<n):TInv n s l use C [s] 0 where
 nodup:=by simp
 lt:=by intro v hv;simp at hv;omega
 head:=rfl
 par:=by intro i v h h0;match i,h0 with|i+1,_=>simp at h
 done:=by intro j u h;omega
theorem nodup_le:∀ {N:Nat} {l:List Nat},l.Nodup→(∀ v ∈ l,v<N)→l.length≤N:=by
 intro N
 induction N with
 | zero =>
   intro l _ hl
   cases l with
   | nil=>exact Nat.le_refl _
   | cons x l=>have:=hl x (by simp);omega
 | succ N ih =>
   intro l hn hl
   have h1:=ih (hn.erase N) fun v hv=>by
    obtain ⟨h2,h3⟩:=(hn.mem_erase_iff).1 hv
    have:=hl v h3
    omega
   rw [List.length_erase] at h1
   split at h1 <;> omega
section
variable {n s:Nat} {l:List Lg} {use:List Nat} {C:Nat→Stp} {ord:List Nat} {p:Nat}
theorem TInv.len (h:TInv n s l use C ord p):ord.length≤n:=nodup_le h.nodup h.lt
theorem TInv.add (h:TInv n s l use C ord p) {u v:Nat} {st:Stp} (hu:ord[p]?=some u) (hv:v<n) (hn:v ∉ ord) (h1:st.ix ∈ use) (h2:st.fin l=(v:Int)) (h3:st.beg l=(u:Int)):TInv n s l use (upS C v st) (ord ++ [v]) p where
 nodup:=by
  rw [List.nodup_append]
  exact ⟨h.nodup,by simp,fun a ha b hb=>by simp at hb;subst hb;exact fun e=>hn (e▸ha)⟩
 lt:=by
  intro x hx
  rcases List.mem_append.1 hx with hx|hx
  · exact h.lt x hx
  · simp at hx;omega
 head:=by rw [List.getElem?_append_left (by have:=(List.getElem?_eq_some_iff.1 h.head).1;omega)];exact h.head
 par:=by
  intro i x hi h0
  have hp:p<ord.length:=(List.getElem?_eq_some_iff.1 hu).1
  by_cases hlt:i<ord.length
  · rw [List.getElem?_append_left hlt] at hi
    obtain ⟨j,y,g1,g2,g3⟩:=h.par i x hi h0
    refine ⟨j,y,g1,by rw [List.getElem?_append_left (by omega)];exact g2,?_⟩
    have:x≠v:=by intro e;subst e;exact hn (List.mem_of_getElem? hi)
    unfold upS;rw [if_neg this];exact g3
  · rw [List.getElem?_append_right (by omega)] at hi
    have g1:=(List.getElem?_eq_some_iff.1 hi).1
    simp at g1
    have e:i - ord.length=0:=by omega
    rw [e] at hi
    simp at hi
    subst hi
    refine ⟨p,u,by omega,by rw [List.getElem?_append_left hp];exact hu,?_⟩
    unfold upS;rw [if_pos rfl];exact ⟨h1,h2,h3⟩
 done:=by
  intro j y hj hy t ht hb
  have hp:p<ord.length:=(List.getElem?_eq_some_iff.1 hu).1
  rw [List.getElem?_append_left (by omega)] at hy
  obtain ⟨v',g1,g2⟩:=h.done j y hj hy t ht hb
  exact ⟨v',List.mem_append_left _ g1,g2⟩
theorem TInv.next (h:TInv n s l use C ord p) {u:Nat} (hu:ord[p]?=some u) (hd:∀ st:Stp,st.ix ∈ use→st.beg l=(u:Int)→∃ v ∈ ord,st.fin l=(v:Int)):TInv n s l use C ord (p+1) :=
 { h with
   done:=by
    intro j y hj hy
    by_cases e:j=p
    · subst e;rw [hu] at hy;cases hy;exact hd
    · exact h.done j y (by omega) hy }
theorem TInv.all (h:TInv n s l use C ord p) (hp:ord.length≤p) {x y:Int} (hr:Reach (legsAt l use) x y):∀ u ∈ ord,x=(u:Int)→∃ v ∈ ord,y=(v:Int):=by
 induction hr with
 | here a=>intro u hu e;exact ⟨u,hu,e⟩
 | @go a b c lk _ ih =>
   intro u hu e
   obtain ⟨g,hg,hd⟩:=lk
   obtain ⟨i,hi,rfl⟩:=List.mem_map.1 hg
   obtain ⟨j,hj⟩:=List.getElem?_of_mem hu
   have hjl:=(List.getElem?_eq_some_iff.1 hj).1
   obtain ⟨st,hs1,hs2,hs3⟩:∃ st:Stp,st.ix ∈ use∧st.beg l=a∧st.fin l=b:=by
    rcases hd with ⟨e1,e2⟩|⟨e1,e2⟩
    · exact ⟨⟨i,false⟩,hi,e1,e2⟩
    · exact ⟨⟨i,true⟩,hi,e1,e2⟩
   obtain ⟨v,hv,hvf⟩:=h.done j u (by omega) hj st hs1 (by rw [hs2,e])
   exact ih v hv (by rw [← hs3,hvf])
theorem TInv.back (h:TInv n s l use C ord p) {v:Nat} (hv:v ∈ ord) (hne:v≠s):∃ u ∈ ord,(C v).ix ∈ use∧(C v).fin l=(v:Int)∧(C v).beg l=(u:Int)∧ord.idxOf u<ord.idxOf v:=by
 have hi:=List.idxOf_lt_length_of_mem hv
 have e:ord[ord.idxOf v]?=some v:=by rw [List.getElem?_eq_getElem hi,List.getElem_idxOf]
 have h0:0<ord.idxOf v:=by
  rcases Nat.eq_zero_or_pos (ord.idxOf v) with e0|e0
  · rw [e0,h.head] at e;cases e;exact absurd rfl hne
  · exact e0
 obtain ⟨j,u,h1,h2,h3,h4,h5⟩:=h.par _ v e h0
 refine ⟨u,List.mem_of_getElem? h2,h3,h4,h5,?_⟩
 obtain ⟨hj,hju⟩:=List.getElem?_eq_some_iff.1 h2
 have e2:=h.nodup.idxOf_getElem j hj
 rw [hju] at e2
 rw [e2];exact h1
theorem TInv.start (h:TInv n s l use C ord p):s ∈ ord:=List.mem_of_getElem? h.head
theorem TInv.idx (h:TInv n s l use C ord p) {v:Nat} (hv:v ∈ ord):ord.idxOf v<n:=Nat.lt_of_lt_of_le (List.idxOf_lt_length_of_mem hv) h.len
end
def Seen (l:List Lg) (use:List Nat) (u:Nat) (ord:List Nat) (i:Nat):Prop:=∀ st:Stp,(∃ j,j<i∧st.ix=nth use j)→st.beg l=(u:Int)→∃ v ∈ ord,st.fin l=(v:Int)
def SeenF (l:List Lg) (q:Nat) (u:Nat) (ord:List Nat) (b:Bool):Prop:=∀ st:Stp,st.ix=q→st.back=b→st.beg l=(u:Int)→∃ v ∈ ord,st.fin l=(v:Int)
theorem Seen.zero (l:List Lg) (use:List Nat) (u:Nat) (ord:List Nat):Seen l use u ord 0:=by rintro st ⟨j,hj,-⟩;omega
theorem Seen.more {l:List Lg} {use:List Nat} {u:Nat} {ord:List Nat} {i:Nat} (h:Seen l use u ord i) (w:Nat):Seen l use u (ord ++ [w]) i:=fun st h1 h2=>by
 obtain ⟨v,hv,e⟩:=h st h1 h2
 exact ⟨v,List.mem_append_left _ hv,e⟩
theorem SeenF.more {l:List Lg} {q u:Nat} {ord:List Nat} {b:Bool} (h:SeenF l q u ord b) (w:Nat):SeenF l q u (ord ++ [w]) b:=fun st h0 h1 h2=>by
 obtain ⟨v,hv,e⟩:=h st h0 h1 h2
 exact ⟨v,List.mem_append_left _ hv,e⟩
theorem Seen.next {l:List Lg} {use:List Nat} {u:Nat} {ord:List Nat} {i:Nat} (h:Seen l use u ord i) (h1:SeenF l (nth use i) u ord false) (h2:SeenF l (nth use i) u ord true):Seen l use u ord (i+1):=by
 rintro st ⟨j,hj,e⟩ hb
 by_cases hji:j=i
 · subst hji
   cases hs:st.back
   · exact h1 st e hs hb
   · exact h2 st e hs hb
 · exact h st ⟨j,by omega,e⟩ hb
theorem Seen.all {l:List Lg} {use:List Nat} {u:Nat} {ord:List Nat} (h:Seen l use u ord use.length):∀ st:Stp,st.ix ∈ use→st.beg l=(u:Int)→∃ v ∈ ord,st.fin l=(v:Int):=fun st hs hb=>by
 obtain ⟨j,hj⟩:=List.getElem?_of_mem hs
 obtain ⟨hj1,hj2⟩:=List.getElem?_eq_some_iff.1 hj
 exact h st ⟨j,hj1,by rw [nth_eq hj1];exact hj2.symm⟩ hb
end Go.Proofs.YthfoloefkfadlaaGreatDoor

namespace Go.Proofs.YthfoloefkfadlaaGreatDoor
open Go Go.RowKit

theorem bsize_app (a b:ByteArray):(a ++ b).size=a.size+b.size:=by simp
theorem itoaB_ne (n:Int):(itoaB n).size≠0:=by
 have h:=itoaB_pos n
 have e:(itoaB n).size=(Lib.itoa n).length:=by simp [itoaB,ByteArray.size]
 omega
theorem askF_ne {s:Sv} (h:svOk s=true) (line:ByteArray):(askF s line).size≠0:=by
 unfold askF
 split
 · exact surveyB_pos h
 · split
   · exact itoaB_ne _
   · split
     · exact itoaB_ne _
     · split
       · split <;> decide
       · split
         · unfold whereB
           split
           · unfold placeB wayB
             have:=itoaB_ne (treesF s)
             simp only [bsize_app]
             omega
           · decide
         · decide
theorem doneB_ne (b:Bool):(doneB b).size≠0:=by cases b <;> decide
theorem bkDo_no' {b:Bk} {d:Dd} (h:(bkDo b d).2=false) (hb:bkOk b=true):(bkDo b d).1=b:=by
 unfold bkDo at h ⊢
 rw [if_pos hb] at h ⊢
 split at h
 · cases h
 · rename_i h0;rw [if_neg h0]
structure LineOk (b:Bk) (x:Bk) (t:ByteArray):Prop where
 ok:bkOk x=true
 same:t=okB∨x=b
 first:x.first=b.first
 ne:t.size≠0
theorem lineF_ok {b:Bk} (h:bkOk b=true) (line:ByteArray):LineOk b (lineF b line).1 (lineF b line).2:=by
 unfold lineF
 rw [if_pos h]
 split
 · cases hd:(bkDo b (rdDdD line).1).2
   · rw [bkDo_no' hd h]
     exact ⟨h,.inr rfl,rfl,doneB_ne false⟩
   · obtain ⟨-,-,h3,h4,-⟩:=do_can hd
     rw [h3]
     exact ⟨h4,.inl rfl,rfl,doneB_ne true⟩
 · split
   · by_cases h0:b.done.length=0
     · have e:bkUndo b=(b,false):=by unfold bkUndo;rw [if_pos h,if_pos h0]
       rw [e]
       exact ⟨h,.inr rfl,rfl,doneB_ne false⟩
     · have h1:=(undo_can h h0).1
       have e:bkUndo b=(⟨b.first,b.done.take (b.done.length - 1),b.undone ++ [nth b.done (b.done.length - 1)]⟩,true):=by unfold bkUndo;rw [if_pos h,if_neg h0]
       rw [e] at h1 ⊢
       exact ⟨h1,.inl rfl,rfl,doneB_ne true⟩
   · split
     · by_cases h0:b.undone.length=0
       · have e:bkRedo b=(b,false):=by unfold bkRedo;rw [if_pos h,if_pos h0]
         rw [e]
         exact ⟨h,.inr rfl,rfl,doneB_ne false⟩
       · have h1:=(redo_can h h0).2.1
         have e:bkRedo b=(⟨b.first,b.done ++ [nth b.undone (b.undone.length - 1)],b.undone.take (b.undone.length - 1)⟩,true):=by unfold bkRedo;rw [if_pos h,if_neg h0]
         rw [e] at h1 ⊢
         exact ⟨h1,.inl rfl,rfl,doneB_ne true⟩
     · exact ⟨h,.inr rfl,rfl,askF_ne (bkNow_valid h) line⟩
theorem lineF_bad {b:Bk} (h:bkOk b=false) (line:ByteArray):lineF b line=(zeroBk,⟨#[]⟩):=by unfold lineF;rw [h];rfl
theorem linesF_app:∀ (l1 l2:List ByteArray) (b:Bk),linesF b (l1 ++ l2)=((linesF (linesF b l1).1 l2).1,(linesF b l1).2 ++ (linesF (linesF b l1).1 l2).2)
 | [],_,_=>rfl
 | l :: l1,l2,b=>by
   have ih:=linesF_app l1 l2 (lineF b l).1
   rw [List.cons_append,linesF,linesF,ih]
   rfl
theorem linesF_len:∀ (ls:List ByteArray) (b:Bk),(linesF b ls).2.length=ls.length
 | [],_=>rfl
 | l :: ls,b=>by rw [linesF,List.length_cons,List.length_cons,linesF_len ls]
theorem linesF_snoc (ls:List ByteArray) (l:ByteArray) (b:Bk):linesF b (ls ++ [l])=((lineF (linesF b ls).1 l).1,(linesF b ls).2 ++ [(lineF (linesF b ls).1 l).2]):=by
 rw [linesF_app];rfl
theorem linesF_take {ls:List ByteArray} {k:Nat} (h:k<ls.length) (b:Bk):linesF b (ls.take (k+1))=((lineF (linesF b (ls.take k)).1 (nth ls k)).1,(linesF b (ls.take k)).2 ++ [(lineF (linesF b (ls.take k)).1 (nth ls k)).2]):=by
 rw [take_nth h,linesF_snoc]
theorem linesF_ok:∀ (ls:List ByteArray) {b:Bk},bkOk b=true→bkOk (linesF b ls).1=true∧(linesF b ls).1.first=b.first∧∀ t ∈ (linesF b ls).2,t.size≠0
 | [],b,h=>⟨h,rfl,fun t ht=>by cases ht⟩
 | l :: ls,b,h=>by
   have h1:=lineF_ok h l
   obtain ⟨i1,i2,i3⟩:=linesF_ok ls h1.ok
   refine ⟨i1,i2.trans h1.first,fun t ht=>?_⟩
   rcases List.mem_cons.1 ht with rfl|ht
   · exact h1.ne
   · exact i3 t ht
end Go.Proofs.YthfoloefkfadlaaGreatDoor
