/- The plain law of reading a book: the first line is a survey, the further lines are deeds done one upon the other. No program. -/
import Derived.Test.YthfoloefkfadlaaGreatDoorT5
import Derived.Test.YthfoloefkfadlaaGreatDoorK7
import Derived.Test.YthfoloefkfadlaaGreatDoorT1
import Derived.Test.YthfoloefkfadlaaGreatDoorT2
set_option linter.unusedSimpArgs false
set_option linter.unusedVariables false
namespace Go.Proofs.YthfoloefkfadlaaGreatDoor
open Go Go.RowKit Go.Sort
def rdDs:Nat→Sv→List ByteArray→List Dd × Nat
 | 0,_,_=>([],0)
 | _+1,_,[]=>([],0)
 | m+1,now,t :: l =>
   if (rdDdD t).2=true∧(ddDo now (rdDdD t).1).2=true then
    ((rdDdD t).1 :: (rdDs m (ddDo now (rdDdD t).1).1 l).1,t.size+1+(rdDs m (ddDo now (rdDdD t).1).1 l).2)
   else ([],0)
def Rding (sv:Sv) (ls:List ByteArray) (ds:List Dd) (n:Nat) (now:Sv):Prop :=
 rdDs 40 sv ls=(ds ++ (rdDs (40 - ds.length) now (ls.drop ds.length)).1,n+(rdDs (40 - ds.length) now (ls.drop ds.length)).2)
theorem Rding.start (sv:Sv) (ls:List ByteArray):Rding sv ls [] 0 sv:=by
 unfold Rding
 simp
theorem zap7 {m:Nat} {now:Sv} {t:ByteArray} {l:List ByteArray} {d:Dd} {s:Sv} (h1:rdDdD t=(d,true)) (h2:ddDo now d=(s,true)):rdDs (m+1) now (t :: l)=(d :: (rdDs m s l).1,t.size+1+(rdDs m s l).2):=by
 rw [rdDs,h1];simp only;rw [h2]
 simp
theorem Rding.next {sv:Sv} {ls:List ByteArray} {ds:List Dd} {n:Nat} {now:Sv} (h:Rding sv ls ds n now) (h40:ds.length<40) (hl:ds.length<ls.length) {d:Dd} {s:Sv} (h1:rdDdD (nth ls ds.length)=(d,true)) (h2:ddDo now d=(s,true)):Rding sv ls (ds ++ [d]) (n+(nth ls ds.length).size+1) s:=by
 unfold Rding at h ⊢;obtain ⟨m,hm⟩:∃ m,40 - ds.length=m+1:=⟨39 - ds.length,by omega⟩;rw [h,hm,zab3 hl,zap7 h1 h2,List.length_append,List.length_singleton,show 40 - (ds.length+1)=m by omega];simp only [List.append_assoc,List.singleton_append,Prod.mk.injEq,true_and]
 omega
theorem Rding.full {sv:Sv} {ls:List ByteArray} {ds:List Dd} {n:Nat} {now:Sv} (h:Rding sv ls ds n now) (h40:40≤ds.length):rdDs 40 sv ls=(ds,n):=by
 unfold Rding at h;rw [h,show 40 - ds.length=0 by omega,rdDs]
 simp
theorem Rding.out {sv:Sv} {ls:List ByteArray} {ds:List Dd} {n:Nat} {now:Sv} (h:Rding sv ls ds n now) (hl:ls.length≤ds.length):rdDs 40 sv ls=(ds,n):=by
 unfold Rding at h;rw [h,List.drop_eq_nil_of_le hl]
 cases 40 - ds.length <;> simp [rdDs]
theorem Rding.bad {sv:Sv} {ls:List ByteArray} {ds:List Dd} {n:Nat} {now:Sv} (h:Rding sv ls ds n now) (hl:ds.length<ls.length) (h1:¬ ((rdDdD (nth ls ds.length)).2=true∧(ddDo now (rdDdD (nth ls ds.length)).1).2=true)):rdDs 40 sv ls=(ds,n):=by
 unfold Rding at h;rw [h,zab3 hl]
 cases 40 - ds.length with
 | zero=>simp [rdDs]
 | succ m=>rw [rdDs,if_neg h1];simp
def rdBk (s:ByteArray):(Bk × Nat) × Bool :=
 if 2≤(cutB 10 s).length∧(rdSvD (nth (cutB 10 s) 0)).2=true then
  ((⟨(rdSvD (nth (cutB 10 s) 0)).1,(rdDs 40 (rdSvD (nth (cutB 10 s) 0)).1 (cutB 10 s).tail.dropLast).1,[]⟩,(nth (cutB 10 s) 0).size+1+(rdDs 40 (rdSvD (nth (cutB 10 s) 0)).1 (cutB 10 s).tail.dropLast).2),true)
 else ((⟨zeroSv,[],[]⟩,0),false)
theorem zawu {s:ByteArray} (h:(cutB 10 s).length<2):rdBk s=((⟨zeroSv,[],[]⟩,0),false):=by
 unfold rdBk;rw [if_neg qO]
theorem zax2 {s:ByteArray} {v:Sv} (h:rdSvD (nth (cutB 10 s) 0)=(v,false)):rdBk s=((⟨zeroSv,[],[]⟩,0),false):=by
 unfold rdBk;rw [if_neg (by rw [h];simp)]
theorem zap8 {s:ByteArray} {v:Sv} (h:rdSvD (nth (cutB 10 s) 0)=(v,true)) (h2:2≤(cutB 10 s).length) {ds:List Dd} {n:Nat} (hd:rdDs 40 v (cutB 10 s).tail.dropLast=(ds,n)):rdBk s=((⟨v,ds,[]⟩,(nth (cutB 10 s) 0).size+1+n),true):=by
 unfold rdBk;rw [if_pos ⟨h2,by rw [h]⟩,h];simp only;rw [hd]
theorem zatg (s:ByteArray):(rdSvD s).1.legs.length≤9:=by
 unfold rdSvD
 cases h:rdSv s with
 | none=>simp [zeroSv]
 | some x=>exact (svOk_iff.1 (rdSv_iff.1 h).1).2.2.1
theorem zan5 {l:List ByteArray} {k:Nat} (hk:k+1<l.length):nth l.dropLast k=nth l k:=by
 have h1:l.dropLast[k]?=l[k]?:=by
  rw [List.getElem?_dropLast]
  exact if_pos qO
 unfold nth
 first
  | rw [h1]
  | (simp only [List.getElem!_eq_getElem?_getD,h1])
  | (simp only [List.getD,h1])
open Go Go.RowKit
def lineL (d:Dd):List UInt8:=(deedB d).data.toList ++ [10]
theorem zain:∀ (l:List Dd) (t:ByteArray),(linesB t l).data.toList=t.data.toList ++ l.flatMap lineL
 | [],t=>by simp [linesB]
 | d :: l,t=>by
   rw [linesB,zain l]
   simp [lineL]
theorem zamf:∀ (qs:List (List UInt8)),(∀ q ∈ qs,(10:UInt8) ∉ q)→cutL 10 (qs.flatMap (· ++ [10]))=qs ++ [[]]
 | [],_=>rfl
 | q :: qs,h=>by
   have e:(q :: qs).flatMap (· ++ [(10:UInt8)])=q ++ 10 :: qs.flatMap (· ++ [10]):=qP
   rw [e,zaaz _ (h q qP),zamf qs fun x hx=>h x (by simp [hx])]
   rfl
theorem zasm (k:Int):(10:UInt8) ∉ (nameB k).data.toList:=by
 unfold nameB
 repeat' (first|split|decide)
theorem zasn {d:Dd} (h:ddIn d=true):(10:UInt8) ∉ (deedB d).data.toList:=by
 have h':=h;unfold ddIn at h';simp only [Bool.and_eq_true,inB,decide_eq_true_eq] at h'
 have n2:(10:UInt8) ∉ (itoaB d.index).data.toList:=by
  rw [show (itoaB d.index).data.toList=Lib.itoa d.index by simp [itoaB]]
  exact zact qO (by decide) (by decide)
 have n3:(10:UInt8) ∉ (legB d.leg).data.toList:=zaie (by decide) (by decide) (by decide) (by decide) (by decide);have n1:=zasm d.kind;unfold deedB;rw [if_pos h]
 split
 · simp [n1,n2,n3]
 · split
   · simp [n1,n2]
   · exact n1
theorem zaj1:∀ (l:List (List UInt8)),(∀ q ∈ l,(10:UInt8) ∉ q)→(10:UInt8) ∉ joinL l
 | [],_=>by simp [joinL]
 | q :: l,h=>by
   have:=zaj1 l fun x hx=>h x (by simp [hx])
   have:=h q qP
   simp [joinL, *]
theorem zaoh {s:Sv} (h:svOk s=true):(10:UInt8) ∉ (surveyB s).data.toList:=by
 unfold surveyB;rw [if_pos h,zae2];obtain ⟨h1,h2,-,-⟩:=svOk_iff.1 h
 have n1:(10:UInt8) ∉ (itoaB s.st).data.toList:=by
  rw [show (itoaB s.st).data.toList=Lib.itoa s.st by simp [itoaB]]
  exact zact qO (by decide) (by decide)
 have n2:=zaj1 (s.legs.map fun g=>(legB g).data.toList) fun q hq=>by
  obtain ⟨g,-,rfl⟩:=List.mem_map.1 hq
  exact zaie (by decide) (by decide) (by decide) (by decide) (by decide)
 simp [n1,n2]
theorem zaty:∀ (l:List Dd) (s:Sv),(runFrom s l).2=l.length→∀ d ∈ l,ddIn d=true
 | [],_,_,d,hd=>by cases hd
 | e :: l,s,h,d,hd=>by
   by_cases he:(ddDo s e).2=true
   · rw [zab2 he] at h
     simp only [List.length_cons] at h
     rcases List.mem_cons.1 hd with rfl|hd
     · obtain ⟨h1,h2,h3⟩:=zalj he
       exact zalr h1 h2 h3
     · exact zaty l (ddDo s e).1 qO d hd
   · rw [zacy he] at h;simp at h
def lenD:List Dd→Nat
 | []=>0
 | d :: l=>(deedB d).size+1+lenD l
theorem zamg:∀ (l:List Dd),(l.flatMap lineL).length=lenD l
 | []=>rfl
 | d :: l=>by
   rw [List.flatMap_cons,List.length_append,zamg l,lenD]
   show ((deedB d).data.toList ++ [10]).length+_=_
   rw [List.length_append]
   rfl
theorem zaj2:∀ (l:List Dd) (m:Nat) (s:Sv),l.length≤m→(runFrom s l).2=l.length→rdDs m s (l.map deedB)=(l,lenD l)
 | [],m,s,_,_=>by cases m <;> rfl
 | d :: l,0,s,hm,_=>by simp at hm
 | d :: l,m+1,s,hm,h=>by
   by_cases he:(ddDo s d).2=true
   · rw [zab2 he] at h
     simp only [List.length_cons] at h hm;obtain ⟨h1,h2,h3⟩:=zalj he;have hin:=zalr h1 h2 h3
     have hrd:rdDdD (deedB d)=(d,true):=by unfold rdDdD;rw [rdDd_iff.2 ⟨hin,rfl⟩]
     obtain ⟨t,ht⟩:∃ t,ddDo s d=(t,true):=⟨(ddDo s d).1,Prod.ext rfl he⟩;rw [ht] at h;simp only at h;rw [List.map_cons,zap7 hrd ht,zaj2 l m t qO qO]
     rfl
   · rw [zacy he] at h;simp at h
theorem zaj3 {b:Bk} (h:bkOk b=true):(bookB b).data.toList=(surveyB b.first).data.toList ++ 10 :: b.done.flatMap lineL:=by
 unfold bookB;rw [if_pos h,zain]
 simp
theorem zatz {b:Bk} (h:bkOk b=true):cutB 10 (bookB b)=surveyB b.first :: (b.done.map deedB ++ [⟨#[]⟩]):=by
 obtain ⟨h1,h2,h3,-⟩:=bkOk_iff.1 h;have hin:=zaty b.done b.first h3;unfold cutB;rw [zaj3 h,zaaz _ (zaoh h1)]
 have e:b.done.flatMap lineL=(b.done.map fun d=>(deedB d).data.toList).flatMap (· ++ [10]):=by
  rw [List.flatMap_map];rfl
 rw [e,zamf _ fun q hq=>by
  obtain ⟨d,hd,rfl⟩:=List.mem_map.1 hq
  exact zasn (hin d hd)]
 simp only [List.map_cons,List.map_append,List.map_map,zacd,List.map_nil]
 congr 2
theorem zaj4 {b:Bk} (h:bkOk b=true):(bookB b).size=(surveyB b.first).size+1+lenD b.done:=by
 have e:=congrArg List.length (zaj3 h);rw [List.length_append,List.length_cons,zamg] at e;have e1:(bookB b).size=(bookB b).data.toList.length:=rfl;have e2:(surveyB b.first).size=(surveyB b.first).data.toList.length:=rfl
 omega
theorem zat0 {b:Bk} (h:bkOk b=true):rdBk (bookB b)=((⟨b.first,b.done,[]⟩,(bookB b).size),true):=by
 obtain ⟨h1,h2,h3,-⟩:=bkOk_iff.1 h;have hc:=zatz h
 have e0:nth (cutB 10 (bookB b)) 0=surveyB b.first:=by rw [hc];rfl
 have hs:rdSvD (nth (cutB 10 (bookB b)) 0)=(b.first,true):=by rw [e0];unfold rdSvD;rw [rdSv_iff.2 ⟨h1,rfl⟩]
 have ht:(cutB 10 (bookB b)).tail.dropLast=b.done.map deedB:=by rw [hc];simp
 have hd:rdDs 40 b.first (cutB 10 (bookB b)).tail.dropLast=(b.done,lenD b.done):=by rw [ht];exact zaj2 b.done 40 b.first qO h3
 rw [zap8 hs (by rw [hc];simp) hd,e0,zaj4 h]
theorem zaqu {b:Bk} (h:bkOk b=false):bookB b=⟨#[]⟩:=by unfold bookB;rw [h];rfl
theorem zar2:∀ (l:List Dd),lenD l≤301*l.length
 | []=>Nat.zero_le _
 | d :: l=>by
   have:=zar2 l;have:=zajw d;simp only [lenD,List.length_cons]
   omega
theorem zavx (b:Bk):(bookB b).size≤20000:=by
 cases h:bkOk b
 · rw [zaqu h];show 0≤20000;omega
 · obtain ⟨h1,h2,h3,-⟩:=bkOk_iff.1 h
   have h4:=zald (n:=b.first.st) (l:=b.first.legs) h1;have:=zar2 b.done;rw [zaj4 h];have h5:(surveyB b.first).size≤2000:=h4
   omega
end Go.Proofs.YthfoloefkfadlaaGreatDoor
