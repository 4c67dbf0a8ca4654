/- Walks: the laws' helpers on legs and surveys: size, copy, equality, marks. -/
import Derived.Test.YthfoloefkfadlaaGreatDoorK2
import Derived.Test.YthfoloefkfadlaaGreatDoorK1
set_option linter.unusedSimpArgs false
set_option linter.unusedVariables false
namespace Go.Proofs.YthfoloefkfadlaaGreatDoor
open Go Go.RowKit Go.Sort
theorem zayj (n:Nat) (h:n≤2097152) (w:World):(Instr.makeSlice 23 (.int .i64 (n:Int)) (.int .i64 (n:Int))).run Tryz.prog w =
 .ok (.slice (some ⟨w.heap.size,0,none⟩) n n) (w.alloc (.cells (madeCells #[.int .i64 0,.int .i64 0,.int .i64 0,.int .i64 0,.int .i64 0] (n*5)) 75)):=by
 obtain ⟨i0,hi,hz0,hz1,hz2⟩:=info_parts zalu;have h:=run_make (P:=Tryz.prog) w 23 75 i0 _ Tryz.underlying23 hi hz0 .i64 .i64 n n qO (Int.le_refl _) (by rw [hz2];omega) qO
 simpa [hz1,Value.cells] using h
def mark1 (k:Int):Lg:=⟨k,k+1,k+1+1,k+1+1+1,k+1+1+1+1⟩
def marks (k:Int):Nat→List Lg
 | 0=>[]
 | n+1=>mark1 k :: marks (k+5) n
abbrev OwnD (w:World) (B:Nat) (v:Value) (l:List Dd):Prop:=KOwn ddK 82 w B v l
theorem zauu:(Tryz.prog.info? 82).map (fun i=>(i.zero,i.size,i.bytes))=some (some (.agg #[.int .i64 0,.int .i64 0,.int .i64 0,.int .i64 0,.int .i64 0,.int .i64 0,.int .i64 0]),7,56):=by kernel_rfl
theorem ddI:KInfo Tryz.prog ddK 82 26:=by
 obtain ⟨i0,hi,hz0,hz1,hz2⟩:=info_parts zauu
 exact ⟨Tryz.underlying26,⟨i0,_,56,hi,hz0,hz1,hz2,rfl,by omega⟩,by decide⟩
structure At (w:World) (X:Nat) (vs:List Value):Prop where
 lt:X<w.heap.size
 c:∀ j v,vs[j]?=some v→w.cell? ⟨X,j,none⟩=some v
 f:∀ j,w.frozen? ⟨X,j,none⟩=false
section
variable {w w':World} {X:Nat} {vs:List Value}
theorem At.belowB {B:Nat} (h:At w X vs) (hb:Below B w w') (hX:X<B):At w' X vs :=
 ⟨Nat.lt_of_lt_of_le h.lt hb.size,fun j v hv=>(hb.cell (p:=⟨X,j,none⟩) hX).trans (h.c j v hv),fun j=>(hb.frozen (p:=⟨X,j,none⟩) hX).trans (h.f j)⟩
theorem At.below (h:At w X vs) (hb:Below w.heap.size w w'):At w' X vs:=h.belowB hb h.lt
theorem At.alloc (h:At w X vs) (o:Obj):At (w.alloc o) X vs:=h.below ((Below.refl _ _).alloc (Nat.le_refl _) o)
theorem At.drew (h:At w X vs):At w.drew X vs:=h.below ((Below.refl _ _).drew)
theorem At.new (w:World) (cs:Array Value) (T:TypeId) (hX:X=w.heap.size) (hv:cs.toList=vs):At (w.alloc (.cells cs T)) X vs:=by
 subst hX hv;have e:(w.alloc (.cells cs T)).heap[w.heap.size]?=some (.cells cs T (0,0)):=Deep.blk_alloc_new _ _
 refine ⟨by simp,fun j v hj=>?_,fun j=>World.frozen?_alloc_new _ _ _ _⟩
 unfold World.cell?;simp only [e]
 simpa using hj
theorem At.set (h:At w X vs) (j:Nat) (v:Value):At (w.setCell ⟨X,j,none⟩ v) X (vs.set j v):=by
 refine ⟨by simpa [World.setCell] using h.lt,fun i u hu=>?_,fun i=>by rw [World.frozen?_setCell];exact h.f i⟩
 rw [List.getElem?_set] at hu
 split at hu
 · rename_i e;subst e
   split at hu
   · rename_i hl;cases hu
     exact World.cell?_setCell_same _ _ _ (h.c _ _ (List.getElem?_eq_getElem hl))
   · cases hu
 · rename_i e
   rw [World.cell?_setCell_other _ _ _ _ (by intro e';injection e' with _ e2;exact e e2)]
   exact h.c i u hu
theorem At.setOther (h:At w X vs) {p:Addr} (hp:X≠p.block) (v:Value):At (w.setCell p v) X vs :=
 ⟨by simpa [World.setCell] using h.lt,fun i u hu=>by rw [World.cell?_setCell_other _ _ _ _ (by intro e;exact hp (by rw [e]))];exact h.c i u hu,fun i=>by rw [World.frozen?_setCell];exact h.f i⟩
theorem At.block (h:At w X vs) (hb:w'.heap[X]?=w.heap[X]?):At w' X vs:=by
 have hl:X<w'.heap.size:=by
  have h1:(w.heap[X]?).isSome=true:=by rw [Array.getElem?_eq_getElem h.lt];rfl
  rw [← hb] at h1
  apply Nat.lt_of_not_le
  intro hle;rw [Array.getElem?_eq_none hle] at h1
  cases h1
 exact ⟨hl,fun j v hv=>(World.cell?_of_block (w:=w) (a:=⟨X,j,none⟩) hb).trans (h.c j v hv),fun j=>(World.frozen?_of_block (w:=w) (a:=⟨X,j,none⟩) hb).trans (h.f j)⟩
theorem At.sets2 {u0 u1:Value} (h:At w X [u0,u1]) (a b:Value):At ((w.setCell ⟨X,0,none⟩ a).setCell ⟨X,1,none⟩ b) X [a,b]:=(h.set 0 a).set 1 b
theorem At.sets4 {u0 u1 u2 u3:Value} (h:At w X [u0,u1,u2,u3]) (a b c d:Value):At ((((w.setCell ⟨X,0,none⟩ a).setCell ⟨X,1,none⟩ b).setCell ⟨X,2,none⟩ c).setCell ⟨X,3,none⟩ d) X [a,b,c,d]:=(((h.set 0 a).set 1 b).set 2 c).set 3 d
theorem At.sets7 {u0 u1 u2 u3 u4 u5 u6:Value} (h:At w X [u0,u1,u2,u3,u4,u5,u6]) (a b c d e f g:Value) :
 At (((((((w.setCell ⟨X,0,none⟩ a).setCell ⟨X,1,none⟩ b).setCell ⟨X,2,none⟩ c).setCell ⟨X,3,none⟩ d).setCell ⟨X,4,none⟩ e).setCell ⟨X,5,none⟩ f).setCell ⟨X,6,none⟩ g) X [a,b,c,d,e,f,g]:=((((((h.set 0 a).set 1 b).set 2 c).set 3 d).set 4 e).set 5 f).set 6 g
theorem At.born {W:World} {cs:Array Value} {T:TypeId} (c:Below (W.alloc (.cells cs T)).heap.size (W.alloc (.cells cs T)) w'):At w' W.heap.size cs.toList:=(At.new W cs T rfl rfl).below c
theorem At.bornD {W:World} {cs:Array Value} {T:TypeId} (c:Below (W.alloc (.cells cs T)).drew.heap.size (W.alloc (.cells cs T)).drew w'):At w' W.heap.size cs.toList:=(At.new W cs T rfl rfl).drew.below c
theorem At.facts2 {a b:Value} (h:At w X [a,b]):X<w.heap.size∧w.cell? ⟨X,0,none⟩=some a∧w.cell? ⟨X,1,none⟩=some b∧∀ j,w.frozen? ⟨X,j,none⟩=false:=⟨h.lt,h.c 0 _ rfl,h.c 1 _ rfl,h.f⟩
theorem At.facts4 {a b c d:Value} (h:At w X [a,b,c,d]):X<w.heap.size∧w.cell? ⟨X,0,none⟩=some a∧w.cell? ⟨X,1,none⟩=some b∧w.cell? ⟨X,2,none⟩=some c∧w.cell? ⟨X,3,none⟩=some d∧∀ j,w.frozen? ⟨X,j,none⟩=false :=
 ⟨h.lt,h.c 0 _ rfl,h.c 1 _ rfl,h.c 2 _ rfl,h.c 3 _ rfl,h.f⟩
theorem At.facts7 {a b c d e f g:Value} (h:At w X [a,b,c,d,e,f,g]):X<w.heap.size∧w.cell? ⟨X,0,none⟩=some a∧w.cell? ⟨X,1,none⟩=some b∧w.cell? ⟨X,2,none⟩=some c∧w.cell? ⟨X,3,none⟩=some d∧w.cell? ⟨X,4,none⟩=some e∧w.cell? ⟨X,5,none⟩=some f∧w.cell? ⟨X,6,none⟩=some g∧∀ j,w.frozen? ⟨X,j,none⟩=false :=
 ⟨h.lt,h.c 0 _ rfl,h.c 1 _ rfl,h.c 2 _ rfl,h.c 3 _ rfl,h.c 4 _ rfl,h.c 5 _ rfl,h.c 6 _ rfl,h.f⟩
def Boxed (V:World) (vs:List Value) (p:Value) (w:World):Prop:=∃ g,p=.pointer (some ⟨g,0,none⟩)∧V.heap.size≤g∧At w g vs∧Below V.heap.size V w
end
structure Wr (R:Nat→Prop) (w w':World):Prop where
 os:w'.os=w.os
 tape:w'.tape=w.tape
 output:w'.output=w.output
 size:w.heap.size≤w'.heap.size
 block:∀ k,k<w.heap.size→¬ R k→w'.heap[k]?=w.heap[k]?
section
variable {R:Nat→Prop} {w w' w'':World}
theorem Wr.refl:Wr R w w:=⟨rfl,rfl,rfl,Nat.le_refl _,fun _ _ _=>rfl⟩
theorem Wr.trans (h:Wr R w w') (k:Wr R w' w''):Wr R w w'' :=
 ⟨k.os.trans h.os,k.tape.trans h.tape,k.output.trans h.output,Nat.le_trans h.size k.size,fun i hi hr=>(k.block i (Nat.lt_of_lt_of_le hi h.size) hr).trans (h.block i hi hr)⟩
theorem Wr.ofBelow (h:Below w.heap.size w w'):Wr R w w':=⟨h.os,h.tape,h.output,h.size,fun k hk _=>h.block k hk⟩
theorem Wr.ofGrown {row:Option Nat} (h:w.grownBy w' row) (hr:∀ k,row=some k→R k):Wr R w w':=⟨h.os,h.tape,h.output,h.size,fun k hk hn=>h.block k hk fun e=>hn (hr k e.symm)⟩
theorem Wr.below {B:Nat} (h:Wr R w w') (hB:B≤w.heap.size) (hr:∀ k,R k→B≤k):Below B w w':=⟨h.os,h.tape,h.output,h.size,fun k hk=>h.block k qO fun e=>by have:=hr k e;omega⟩
theorem KOwn.wr {α:Type} {K:Kind α} [Inhabited α] {T:TypeId} {B:Nat} {v:Value} {xs:List α} (h:KOwn K T w B v xs) (hw:Wr R w w') (hr:∀ k,v.ownBlock=some k→¬ R k):KOwn K T w' B v xs:=by
 refine ⟨h.1,?_⟩
 rcases h.2 with hn|⟨g,cap,cur,e,hB,hg,r⟩
 · exact .inl hn
 · exact .inr ⟨g,cap,cur,e,hB,(hw.block g (Array.getElem?_eq_some_iff.1 hg).1 (hr g (by rw [e];rfl))).trans hg,r⟩
end
structure BkOwn (w:World) (B:Nat) (v1 v2 v3:Value) (b:Bk):Prop where
 l:OwnL w B v1 b.first.legs
 d:OwnD w B v2 b.done
 u:OwnD w B v3 b.undone
 ne12:∀ k,v1.ownBlock=some k→v2.ownBlock≠some k
 ne13:∀ k,v1.ownBlock=some k→v3.ownBlock≠some k
 ne23:∀ k,v2.ownBlock=some k→v3.ownBlock≠some k
def bkBlk (v1 v2 v3:Value) (k:Nat):Prop:=v1.ownBlock=some k∨v2.ownBlock=some k∨v3.ownBlock=some k
section
variable {w w':World} {B:Nat} {v1 v2 v3:Value} {b:Bk}
theorem BkOwn.below (h:BkOwn w B v1 v2 v3 b) (hb:Below w.heap.size w w'):BkOwn w' B v1 v2 v3 b:=⟨h.l.below hb,h.d.below hb,h.u.below hb,h.ne12,h.ne13,h.ne23⟩
theorem BkOwn.mono (h:BkOwn w B v1 v2 v3 b) {B':Nat} (hB:B'≤B):BkOwn w B' v1 v2 v3 b:=⟨h.l.mono hB,h.d.mono hB,h.u.mono hB,h.ne12,h.ne13,h.ne23⟩
theorem BkOwn.blk (h:BkOwn w B v1 v2 v3 b) {k:Nat} (hk:bkBlk v1 v2 v3 k):B≤k∧k<w.heap.size:=by
 rcases hk with e|e|e
 · exact h.l.lt e
 · exact h.d.lt e
 · exact h.u.lt e
theorem BkOwn.setCell (h:BkOwn w B v1 v2 v3 b) {p:Addr} (hp:p.block<B) (u:Value):BkOwn (w.setCell p u) B v1 v2 v3 b:=⟨h.l.setCell hp u,h.d.setCell hp u,h.u.setCell hp u,h.ne12,h.ne13,h.ne23⟩
theorem BkOwn.wr {R:Nat→Prop} (h:BkOwn w B v1 v2 v3 b) (hw:Wr R w w') (hr:∀ k,bkBlk v1 v2 v3 k→¬ R k):BkOwn w' B v1 v2 v3 b :=
 ⟨h.l.wr hw fun k e=>hr k (.inl e),h.d.wr hw fun k e=>hr k (.inr (.inl e)),h.u.wr hw fun k e=>hr k (.inr (.inr e)),h.ne12,h.ne13,h.ne23⟩
theorem BkOwn.forms (h:BkOwn w B v1 v2 v3 b):∃ a1 c1 a2 c2 a3 c3,v1=.slice a1 b.first.legs.length c1∧v2=.slice a2 b.done.length c2∧v3=.slice a3 b.undone.length c3:=by
 obtain ⟨a1,c1,e1⟩:=h.l.sl;obtain ⟨a2,c2,e2⟩:=h.d.sl;obtain ⟨a3,c3,e3⟩:=h.u.sl
 exact ⟨a1,c1,a2,c2,a3,c3,e1,e2,e3⟩
end
def BkRet (b:Bk) (w:World) (e:Ending) (w':World):Prop:=∃ v1 v2 v3,e=.returned (.agg #[.int .i64 b.first.st,v1,v2,v3])∧BkOwn w' w.heap.size v1 v2 v3 b∧Below w.heap.size w w'
def BkOut (p:Bk × Bool) (w:World) (e:Ending) (w':World):Prop:=∃ v1 v2 v3,e=.returned (.tuple #[.agg #[.int .i64 p.1.first.st,v1,v2,v3],.bool p.2])∧BkOwn w' w.heap.size v1 v2 v3 p.1∧Below w.heap.size w w'
structure RdB (w:World) (a1 a2 a3:Option Addr) (b:Bk):Prop where
 l:Legs w a1 b.first.legs
 d:Dds w a2 b.done
 u:Dds w a3 b.undone
theorem RdB.below {w w':World} {a1 a2 a3:Option Addr} {b:Bk} (h:RdB w a1 a2 a3 b) (hb:Below w.heap.size w w'):RdB w' a1 a2 a3 b:=⟨h.l.below hb,h.d.below hb,h.u.below hb⟩
theorem BkOwn.kr {w:World} {B:Nat} {a1 a2 a3:Option Addr} {n1 n2 n3 c1 c2 c3:Nat} {b:Bk} (h:BkOwn w B (.slice a1 n1 c1) (.slice a2 n2 c2) (.slice a3 n3 c3) b):RdB w a1 a2 a3 b:=⟨h.l.kr,h.d.kr,h.u.kr⟩
theorem BkOwn.alloc {w:World} {B:Nat} {v1 v2 v3:Value} {b:Bk} (h:BkOwn w B v1 v2 v3 b) (o:Obj):BkOwn (w.alloc o) B v1 v2 v3 b:=h.below ((Below.refl _ _).alloc (Nat.le_refl _) o)
theorem zaat (a:Option Addr) (n c n' c':Nat):(Value.slice a n c).ownBlock=(Value.slice a n' c').ownBlock:=by
 cases a <;> rfl
theorem zafg {s:Sv} (h:svOk s=true):s.legs.length≤9:=(svOk_iff.1 h).2.2.1
theorem zawo (s:Sv) (d:Dd):(ddDo s d).1.legs.length≤9:=by
 cases h:svOk s
 · rw [zagr h];exact Nat.zero_le _
 · exact zafg (zaew h)
def BoxS (V:World) (s:Sv) (p:Value) (w:World):Prop:=∃ g a c,p=.pointer (some ⟨g,0,none⟩)∧V.heap.size≤g∧At w g [.int .i64 s.st,.slice a s.legs.length c]∧OwnL w V.heap.size (.slice a s.legs.length c) s.legs ∧
 (∀ k,(Value.slice a s.legs.length c).ownBlock=some k→k≠g)∧Below V.heap.size V w
theorem zagz {V w:World} {s:Sv} {a:Option Addr} {c B:Nat} {T:TypeId} (o:OwnL w B (.slice a s.legs.length c) s.legs) (hB:V.heap.size≤B) (b:Below V.heap.size V w) :
 BoxS V s (.pointer (some ⟨w.heap.size,0,none⟩)) (w.alloc (.cells #[.int .i64 s.st,.slice a s.legs.length c] T)) :=
 ⟨_,a,c,rfl,b.size,At.new _ _ _ rfl rfl,(o.alloc _).mono hB,fun k hk=>by have:=(o.lt hk).2;omega,b.alloc b.size _⟩
theorem zag0 {V w:World} {s:Sv} {a:Option Addr} {c B g:Nat} {u0 u1:Value} (A:At w g [u0,u1]) (hV:V.heap.size≤g) (o:OwnL w B (.slice a s.legs.length c) s.legs) (hB:V.heap.size≤B) (hg:g<B) (b:Below V.heap.size V w) :
 BoxS V s (.pointer (some ⟨g,0,none⟩)) ((w.setCell ⟨g,0,none⟩ (.int .i64 s.st)).setCell ⟨g,1,none⟩ (.slice a s.legs.length c)) :=
 ⟨_,a,c,rfl,hV,A.sets2 _ _,((o.setCell (p:=⟨g,0,none⟩) hg _).setCell (p:=⟨g,1,none⟩) hg _).mono hB,fun k hk=>by have:=(o.lt hk).1;omega,(b.setCell (p:=⟨g,0,none⟩) hV _).setCell (p:=⟨g,1,none⟩) hV _⟩
def BoxB (V:World) (b:Bk) (p:Value) (w:World):Prop:=∃ g a1 a2 a3 c1 c2 c3,p=.pointer (some ⟨g,0,none⟩)∧V.heap.size≤g∧At w g [.int .i64 b.first.st,.slice a1 b.first.legs.length c1,.slice a2 b.done.length c2,.slice a3 b.undone.length c3] ∧
 BkOwn w V.heap.size (.slice a1 b.first.legs.length c1) (.slice a2 b.done.length c2) (.slice a3 b.undone.length c3) b∧(∀ k,bkBlk (.slice a1 b.first.legs.length c1) (.slice a2 b.done.length c2) (.slice a3 b.undone.length c3) k→k≠g)∧Below V.heap.size V w
theorem zawp {V w:World} {b:Bk} {a1 a2 a3:Option Addr} {c1 c2 c3 B:Nat} {T:TypeId} (o:BkOwn w B (.slice a1 b.first.legs.length c1) (.slice a2 b.done.length c2) (.slice a3 b.undone.length c3) b) (hB:V.heap.size≤B) (hb:Below V.heap.size V w) :
 BoxB V b (.pointer (some ⟨w.heap.size,0,none⟩)) (w.alloc (.cells #[.int .i64 b.first.st,.slice a1 b.first.legs.length c1,.slice a2 b.done.length c2,.slice a3 b.undone.length c3] T)) :=
 ⟨_,a1,a2,a3,c1,c2,c3,rfl,hb.size,At.new _ _ _ rfl rfl,(o.alloc _).mono hB,fun k hk=>by have:=(o.blk hk).2;omega,hb.alloc hb.size _⟩
theorem zawq {V w:World} {b:Bk} {a1 a2 a3:Option Addr} {c1 c2 c3 B g:Nat} {u0 u1 u2 u3:Value} (A:At w g [u0,u1,u2,u3]) (hV:V.heap.size≤g) (o:BkOwn w B (.slice a1 b.first.legs.length c1) (.slice a2 b.done.length c2) (.slice a3 b.undone.length c3) b) (hB:V.heap.size≤B) (hg:g<B) (hb:Below V.heap.size V w) :
 BoxB V b (.pointer (some ⟨g,0,none⟩)) ((((w.setCell ⟨g,0,none⟩ (.int .i64 b.first.st)).setCell ⟨g,1,none⟩ (.slice a1 b.first.legs.length c1)).setCell ⟨g,2,none⟩ (.slice a2 b.done.length c2)).setCell ⟨g,3,none⟩ (.slice a3 b.undone.length c3)) :=
 ⟨_,a1,a2,a3,c1,c2,c3,rfl,hV,A.sets4 _ _ _ _,((((o.setCell (p:=⟨g,0,none⟩) hg _).setCell (p:=⟨g,1,none⟩) hg _).setCell (p:=⟨g,2,none⟩) hg _).setCell (p:=⟨g,3,none⟩) hg _).mono hB,fun k hk=>by have:=(o.blk hk).1;omega,
  (((hb.setCell (p:=⟨g,0,none⟩) hV _).setCell (p:=⟨g,1,none⟩) hV _).setCell (p:=⟨g,2,none⟩) hV _).setCell (p:=⟨g,3,none⟩) hV _⟩
structure Upto (K R:Nat) (w w':World):Prop where
 os:w'.os=w.os
 tape:w'.tape=w.tape
 output:w'.output=w.output
 size:w.heap.size≤w'.heap.size
 block:∀ k,k<K→k≠R→w'.heap[k]?=w.heap[k]?
theorem Upto.refl (K R:Nat) (w:World):Upto K R w w:=⟨rfl,rfl,rfl,Nat.le_refl _,fun _ _ _=>rfl⟩
theorem Upto.of {K R:Nat} {w w':World} (h:Below K w w'):Upto K R w w':=⟨h.os,h.tape,h.output,h.size,fun k hk _=>h.block k hk⟩
theorem Upto.trans {K R:Nat} {w w' w'':World} (h:Upto K R w w') (h':Upto K R w' w''):Upto K R w w'' :=
 ⟨h'.os.trans h.os,h'.tape.trans h.tape,h'.output.trans h.output,Nat.le_trans h.size h'.size,fun k hk hr=>(h'.block k hk hr).trans (h.block k hk hr)⟩
theorem Upto.mono {K K' R:Nat} {w w':World} (h:Upto K R w w') (hK:K'≤K):Upto K' R w w':=⟨h.os,h.tape,h.output,h.size,fun k hk=>h.block k qO⟩
theorem Upto.below {K R:Nat} {w w':World} (h:Upto K R w w') (hK:K≤R):Below K w w':=⟨h.os,h.tape,h.output,h.size,fun k hk=>h.block k hk qO⟩
theorem Upto.tick (K R q:Nat) (w:World) (x:Value):Upto K R w ((w.setCell ⟨R,1,none⟩ x).drewN q):=⟨rfl,rfl,rfl,by simp [World.setCell,World.drewN],fun k _ hr=>Below.heap_setCell w ⟨R,1,none⟩ x k hr⟩
theorem Upto.cell {K R:Nat} {w w':World} (h:Upto K R w w') {p:Addr} (hp:p.block<K) (hr:p.block≠R):w'.cell? p=w.cell? p:=World.cell?_of_block (h.block _ hp hr)
theorem zaov {w w':World} {B K R E sz:Nat} {v:Value} {n:Nat} {cs:List Value} (h:w.ownsRow B E sz v n cs) (hu:Upto K R w w') (hK:∀ k,v.ownBlock=some k→k<K∧k≠R):w'.ownsRow B E sz v n cs:=by
 refine ⟨h.1,?_⟩
 rcases h.2 with hn|⟨g,cap,cur,e,hB,hg,r⟩
 · exact .inl hn
 · subst e
   obtain ⟨h1,h2⟩:=hK g rfl
   exact .inr ⟨g,cap,cur,rfl,hB,(hu.block g h1 h2).trans hg,r⟩
theorem Rdr.keep {w w':World} {R:Nat} {a:Option Addr} {n c p B:Nat} (h:Rdr w R a n c p) (hR:R<B) (ha:∀ b off,0<n→a=some ⟨b,off,none⟩→b<B) (hb:Below B w w'):Rdr w' R a n c p :=
 ⟨by rw [hb.cell (p:=⟨R,0,none⟩) hR];exact h.code,by rw [hb.cell (p:=⟨R,1,none⟩) hR];exact h.at_,by rw [hb.frozen (p:=⟨R,1,none⟩) hR];exact h.free,fun hn=>by
  obtain ⟨b,off,e,hlt,hc⟩:=h.bytes hn;have hbB:=ha b off hn e
  refine ⟨b,off,e,Nat.lt_of_lt_of_le hlt hb.size,fun j hj=>?_⟩
  obtain ⟨x,hx,hc⟩:=hc j hj
  exact ⟨x,hx,by rw [hb.cell (p:=⟨b,off+j,none⟩) hbB];exact hc⟩,h.apart,h.few⟩
theorem zaao (R:Nat) (a:Option Addr) (n c p:Nat) (m:Int) (w:World) (h:Rdr w R a n c p) (hp:p≤1000000) (hm:m≤1000000) :
 Calls Tryz.prog 36 #[.pointer (some ⟨R,0,none⟩),.int .i64 m] w fun e w'=>∃ k:Nat,e=.returned (.int .i64 (k:Int))∧(1≤m→(k:Int)<m)∧(m<1→k=0)∧Rdr w' R a n c (p+1)∧(∀ K,Upto K R w w') :=
 (zaol R a n c p m w h hp hm).mono fun e w' ⟨k,he,h1,h2,q,hw⟩=>⟨k,he,h1,h2,by rw [hw];exact h.ticked.drewN q,fun K=>by rw [hw];exact Upto.tick K R q w _⟩
theorem zaka (R:Nat) (a:Option Addr) (n c p:Nat) (m:Nat) (w:World) (h:Rdr w R a n c p) (hp:p≤1000000) (hm1:0<m) (hm:m≤1000000) :
 Calls Tryz.prog 38 #[.pointer (some ⟨R,0,none⟩),.int .i64 m] w fun e w'=>∃ b,e=.returned (.bool b)∧Rdr w' R a n c (p+1)∧(∀ K,Upto K R w w') :=
 (zaxp R a n c p m w h hp hm1 hm).mono fun e w' ⟨k,he,q,hw⟩=>⟨k,he,by rw [hw];exact h.ticked.drewN q,fun K=>by rw [hw];exact Upto.tick K R q w _⟩
theorem KOwn.upto {α:Type} {K:Kind α} {T:TypeId} {w w':World} {B M R:Nat} {v:Value} {xs:List α} (h:KOwn K T w B v xs) (hR:R<B) (hu:Upto M R w w') (hM:∀ k,v.ownBlock=some k→k<M):KOwn K T w' B v xs :=
 zaov h hu fun k hk=>⟨hM k hk,by have:=(World.ownsRow.lt h k hk).1;omega⟩
theorem At.upto {w w':World} {X M R:Nat} {vs:List Value} (h:At w X vs) (hu:Upto M R w w') (hM:X<M) (hR:X≠R):At w' X vs:=h.block (hu.block X hM hR)
theorem Upto.grown {K R:Nat} {w w':World} (h:Below w.heap.size w w') (hK:K≤w.heap.size):Upto K R w w':=Upto.of (h.mono hK)
end Go.Proofs.YthfoloefkfadlaaGreatDoor
