/- Memory in walks: how lists of Go data lie in the heap, read-only ('Rd') and owned ('World.ownsRow'), and how both are kept. No program. -/
import Derived.WalkKit
import Derived.WalkSpells
import Derived.BigQuiet
import Derived.Deep.QuietTactic
import Derived.Deep.OwnRows
import Derived.Lib.Hide
import Derived.WalkSmall
import Derived.Lib.MinMax
import Derived.Maps.AppendAt
import Derived.Below
import Derived.OneCell
import Derived.ProofKit
import Derived.Deep.Slices
import Derived.Laws.Bits64b
import Derived.Deep.RegionLaw
import Derived.Deep.AppendLies
import Derived.OwnWalk
import Derived.Laws.IdiomCopy
import Derived.Lib.AppendZerosOnto
import Derived.ArgAppend
set_option linter.unusedSimpArgs false
set_option linter.unusedVariables false
namespace Go.Proofs.YthfoloefkfadlaaGreatDoor
open Go Go.RowKit
theorem qO {p:Prop} (h:p:=by omega):p:=h
theorem qP {p:Prop} (h:p:=by simp):p:=h
theorem qN {α:Type} (a:α):∃ b,a=b:=⟨_,rfl⟩
theorem qM {α:Type} (a:α):∃ b,b=a:=⟨_,rfl⟩
def nth {α:Type} [Inhabited α] (xs:List α) (k:Nat):α:=xs.getD k default
theorem zaws {α:Type} {xs:List α} {k:Nat} (h:xs.length≤k):xs.drop k=[]:=List.drop_eq_nil_of_le h
section
variable {α β:Type} [Inhabited α] [Inhabited β]
theorem zacz {xs:List α} {k:Nat} (h:k<xs.length):nth xs k=xs[k]:=by simp [nth,h]
theorem getElem?_nth {xs:List α} {k:Nat} (h:k<xs.length):xs[k]?=some (nth xs k):=by simp [nth,h]
theorem zab3 {xs:List α} {k:Nat} (h:k<xs.length):xs.drop k=nth xs k :: xs.drop (k+1):=by
 rw [zacz h];exact List.drop_eq_getElem_cons h
theorem zabc {xs:List α} {k:Nat} (h:k<xs.length):xs.take (k+1)=xs.take k ++ [nth xs k]:=by
 rw [zacz h,List.take_succ_eq_append_getElem h]
theorem zaaf {xs:List α} {k:Nat} (h:k<xs.length):nth xs k ∈ xs:=by rw [zacz h];exact List.getElem_mem h
theorem zaam {xs ys:List α} {k:Nat} (h:k<xs.length):nth (xs ++ ys) k=nth xs k:=by
 simp [nth,List.getElem?_append_left h]
theorem zaay {xs ys:List α} {k:Nat} (h:xs.length≤k):nth (xs ++ ys) k=nth ys (k - xs.length):=by
 simp [nth,List.getElem?_append_right h]
theorem zaby (xs:List α) (x:α) (ys:List α):nth (xs ++ x :: ys) xs.length=x:=by simp [nth]
theorem zab5 {f:α→β} {xs:List α} {k:Nat} (h:k<xs.length):nth (xs.map f) k=f (nth xs k):=by simp [nth,h]
theorem zaav {xs:List α} {i k:Nat} {x:α} (h:k<xs.length):nth (xs.set i x) k=if i=k then x else nth xs k:=by
 simp only [nth,List.getD_eq_getElem?_getD,List.getElem?_set]
 split
 · rename_i e;subst e;simp [h]
 · rfl
theorem zabt {xs:List α} {n k:Nat} (h:k<n):nth (xs.take n) k=nth xs k:=by
 simp [nth,h]
theorem zaba {xs:List α} {n k:Nat}:nth (xs.drop n) k=nth xs (n+k):=by
 simp [nth]
theorem zabf {xs ys:List α} (hl:xs.length=ys.length) (h:∀ k,k<xs.length→nth xs k=nth ys k):xs=ys:=by
 apply List.ext_getElem hl
 intro k h1 h2;have:=h k h1
 rwa [zacz h1,zacz h2] at this
end
structure Lay (α:Type) where
 sz:Nat
 At:World→Nat→Nat→α→Prop
 keep:∀ {w w':World} {b o:Nat} {x:α},(∀ b' o',b'<w.heap.size→w'.cell? ⟨b',o',none⟩=w.cell? ⟨b',o',none⟩)→w.heap.size≤w'.heap.size→At w b o x→At w' b o x
theorem zalz {w:World} {b o:Nat} {v:Value} (h:w.cell? ⟨b,o,none⟩=some v):b<w.heap.size:=World.block_lt_of_cell? w ⟨b,o,none⟩ h
def Rd {α:Type} [Inhabited α] (L:Lay α) (w:World) (a:Option Addr) (xs:List α):Prop :=
 xs=[]∨∃ b off,a=some ⟨b,off,none⟩∧b<w.heap.size∧∀ k,k<xs.length→L.At w b (off+k*L.sz) (nth xs k)
section
variable {α:Type} [Inhabited α] {L:Lay α} {w w':World} {a:Option Addr} {xs:List α}
theorem Rd.at (h:Rd L w a xs) {k:Nat} (hk:k<xs.length) :
 ∃ b off,a=some ⟨b,off,none⟩∧b<w.heap.size∧∀ j,j<xs.length→L.At w b (off+j*L.sz) (nth xs j):=by
 rcases h with rfl|h
 · simp at hk
 · exact h
theorem Rd.move (h:Rd L w a xs) (hc:∀ b' o',b'<w.heap.size→w'.cell? ⟨b',o',none⟩=w.cell? ⟨b',o',none⟩) (hs:w.heap.size≤w'.heap.size):Rd L w' a xs:=by
 rcases h with rfl|⟨b,off,e,hb,h⟩
 · exact .inl rfl
 · exact .inr ⟨b,off,e,by omega,fun k hk=>L.keep hc hs (h k hk)⟩
theorem Rd.below (h:Rd L w a xs) (hb:Below w.heap.size w w'):Rd L w' a xs :=
 h.move (fun b' o' hl=>hb.cell (p:=⟨b',o',none⟩) hl) hb.size
end
theorem zaku (w:World) (o:Obj) (b' o':Nat) (h:b'<w.heap.size):(w.alloc o).cell? ⟨b',o',none⟩=w.cell? ⟨b',o',none⟩ :=
 World.cell?_of_block (w:=w) (Below.heap_alloc w o b' h)
section
variable {α:Type} [Inhabited α] {L:Lay α} {w w':World} {a:Option Addr} {xs:List α}
theorem Rd.alloc (h:Rd L w a xs) (o:Obj):Rd L (w.alloc o) a xs:=h.below ((Below.refl _ _).alloc (Nat.le_refl _) o)
end
theorem zap5 {w:World} {B B':Nat} {E sz:Nat} {v:Value} {n:Nat} {cs:List Value} (h:w.ownsRow B E sz v n cs) (hB:B'≤B):w.ownsRow B' E sz v n cs:=by
 refine ⟨h.1,?_⟩
 rcases h.2 with h|⟨g,cap,cur,e,hg,r⟩
 · exact .inl h
 · exact .inr ⟨g,cap,cur,e,Nat.le_trans hB hg,r⟩
theorem zap6 {w:World} {B E sz:Nat} {v:Value} {n:Nat} {cs:List Value} (h:w.ownsRow B E sz v n cs) :
 ∃ a c,v=.slice a n c∧n≤c∧(0<n→∃ g,a=some ⟨g,0,none⟩∧B≤g∧g<w.heap.size∧∀ j u,cs[j]?=some u→w.cell? ⟨g,j,none⟩=some u):=by
 rcases h.2 with ⟨e,hn⟩|⟨g,cap,cur,e,hB,hg,hn,hc,hs,ht⟩
 · subst hn;exact ⟨none,0,e,Nat.le_refl _,fun h=>absurd h qO⟩
 · refine ⟨some ⟨g,0,none⟩,cap,e,hn,fun _=>⟨g,rfl,hB,(Array.getElem?_eq_some_iff.1 hg).1,fun j u hu=>?_⟩⟩
   have:=World.ownsRow.cells h (g:=g) (by rw [e];rfl) j u hu
   rwa [Addr.add_lit,Nat.zero_add] at this
theorem zan2 {w w':World} {B E sz:Nat} {v:Value} {n:Nat} {cs:List Value} (h:w.ownsRow B E sz v n cs) (hb:Below w.heap.size w w'):w'.ownsRow B E sz v n cs:=by
 refine ⟨h.1,?_⟩
 rcases h.2 with hn|⟨g,cap,cur,e,hB,hg,r⟩
 · exact .inl hn
 · exact .inr ⟨g,cap,cur,e,hB,(hb.block g (Array.getElem?_eq_some_iff.1 hg).1).trans hg,r⟩
theorem zaga {w w':World} {row:Option Nat} {B:Nat} (hg:w.grownBy w' row) (hB:B≤w.heap.size) (hr:∀ k,row=some k→B≤k):Below B w w':=(Below.refl B w).grown hg hB hr
theorem bcell {W w1:World} (hb:Below W.heap.size W w1):(∀ b o,b<W.heap.size→w1.cell? ⟨b,o,none⟩=W.cell? ⟨b,o,none⟩)∧(∀ b o,b<W.heap.size→w1.frozen? ⟨b,o,none⟩=W.frozen? ⟨b,o,none⟩) :=
 ⟨fun b o h=>hb.cell (p:=⟨b,o,none⟩) h,fun b o h=>hb.frozen (p:=⟨b,o,none⟩) h⟩
theorem qAl {B:Nat} {w w':World} (h:Below B w w') (o:Obj) (hB:B≤w'.heap.size:=by first|omega|(simp;done)|(simp;omega)):Below B w (w'.alloc o):=Below.alloc h hB o
theorem qSt {B:Nat} {w w':World} {p:Addr} (h:Below B w w') (v:Value) (hB:B≤p.block:=by first|omega|(simp;done)|(simp;omega)):Below B w (w'.setCell p v):=Below.setCell h hB v
theorem qHb {B:Nat} {w w':World} (h:Below B w w':=by repeat (first|with_reducible assumption|with_reducible exact Below.refl _ _|with_reducible refine qSt ?_ _|with_reducible refine qAl ?_ _|with_reducible refine Below.drew ?_)):Below B w w':=h
theorem qBl {B:Nat} {w w':World} (h:Below B w w':=by repeat (first|with_reducible assumption|exact Below.refl _ _|refine below_drewN ?_ _|refine Below.drew ?_|refine qAl ?_ _|refine qSt ?_ _)):Below B w w':=h
theorem qSo {p:Prop} (h:p:=by first|omega|(simp;done)|(simp;omega)):p:=h
structure Kind (α:Type) where
 sz:Nat
 cells:α→List Value
 len:∀ x,(cells x).length=sz
 one:∀ x,∀ u ∈ cells x,u.oneCell'=true
section
variable {α:Type} {K:Kind α}
def Kind.flat (K:Kind α) (xs:List α):List Value:=xs.flatMap K.cells
theorem zabi:K.flat []=[]:=rfl
theorem zaa4 (x:α) (l:List α):K.flat (x :: l)=K.cells x ++ K.flat l:=by simp [Kind.flat]
theorem zai4 (xs ys:List α):K.flat (xs ++ ys)=K.flat xs ++ K.flat ys:=by simp [Kind.flat]
theorem zaau [Inhabited α]:∀ (xs:List α),(K.flat xs).length=xs.length*K.sz
 | []=>by simp [zabi]
 | x :: l=>by rw [zaa4,List.length_append,K.len,zaau l,List.length_cons,Nat.succ_mul];omega
theorem zajq (xs:List α):∀ u ∈ K.flat xs,u.oneCell'=true:=by
 intro u hu;obtain ⟨x,_,h⟩:=List.mem_flatMap.1 hu
 exact K.one x u h
theorem zaef [Inhabited α]:∀ (xs:List α) (k j:Nat),k<xs.length→j<K.sz→(K.flat xs)[k*K.sz+j]?=(K.cells (nth xs k))[j]?
 | [],k,j,h,_=>by simp at h
 | x :: l,0,j,_,hj=>by
   rw [zaa4,Nat.zero_mul,Nat.zero_add,List.getElem?_append_left (by rw [K.len];exact hj)]
   rfl
 | x :: l,k+1,j,h,hj=>by
   rw [zaa4,List.getElem?_append_right (by rw [K.len,Nat.succ_mul];omega),K.len,show (k+1)*K.sz+j - K.sz=k*K.sz+j by rw [Nat.succ_mul];omega]
   exact zaef l k j (by simpa using h) hj
theorem zag3 [Inhabited α] (xs:List α) {i:Nat} {u:Value} (h:(K.flat xs)[i]?=some u):∃ k j,k<xs.length∧j<K.sz∧i=k*K.sz+j∧(K.cells (nth xs k))[j]?=some u:=by
 have hi:i<xs.length*K.sz:=by
  have:=(List.getElem?_eq_some_iff.1 h).1
  rwa [zaau] at this
 have hp:0<K.sz:=Nat.pos_of_ne_zero fun e=>by rw [e] at hi;simp at hi
 have hk:i / K.sz<xs.length:=Nat.div_lt_of_lt_mul (by rw [Nat.mul_comm];exact hi);have hj:i % K.sz<K.sz:=Nat.mod_lt _ hp
 have e:i=i / K.sz*K.sz+i % K.sz:=by rw [Nat.mul_comm];exact (Nat.div_add_mod _ _).symm
 refine ⟨_,_,hk,hj,e,?_⟩
 rw [← zaef xs _ _ hk hj,← e];exact h
def Kind.lay (K:Kind α):Lay α where
 sz:=K.sz
 At w b o x:=∀ j u,(K.cells x)[j]?=some u→w.cell? ⟨b,o+j,none⟩=some u
 keep:=fun hc _ h j u hj=>(hc _ _ (zalz (h j u hj))).trans (h j u hj)
abbrev KRd [Inhabited α] (K:Kind α) (w:World) (a:Option Addr) (xs:List α):Prop:=Rd K.lay w a xs
theorem KRd.mk [Inhabited α] {w:World} {b off:Nat} {xs:List α} (hb:b<w.heap.size) (h:∀ j u,(K.flat xs)[j]?=some u→w.cell? ⟨b,off+j,none⟩=some u):KRd K w (some ⟨b,off,none⟩) xs :=
 .inr ⟨b,off,rfl,hb,fun k hk j u hj=>by
  have hjs:j<K.sz:=by have:=(List.getElem?_eq_some_iff.1 hj).1;rwa [K.len] at this
  have:=h (k*K.sz+j) u (by rw [zaef xs k j hk hjs];exact hj)
  rw [← Nat.add_assoc] at this;exact this⟩
theorem KRd.cells [Inhabited α] {w:World} {b off:Nat} {xs:List α} (h:KRd K w (some ⟨b,off,none⟩) xs):∀ j u,(K.flat xs)[j]?=some u→w.cell? ((⟨b,off,none⟩:Addr).add j)=some u:=by
 intro i u hi;obtain ⟨k,j,hk,_,e,hu⟩:=zag3 xs hi;obtain ⟨b',off',e',_,hc⟩:=Rd.at h hk
 cases e'
 rw [Addr.add_lit,e,← Nat.add_assoc]
 exact hc k hk j u hu
theorem KRd.cellsA [Inhabited α] {w:World} {ad:Addr} {xs:List α} (h:KRd K w (some ad) xs):∀ j u,(K.flat xs)[j]?=some u→w.cell? (ad.add j)=some u:=by
 rcases h with e|⟨b,off,e,hb,hc⟩
 · intro j u hj;rw [e] at hj;simp [zabi] at hj
 · cases e
   exact KRd.cells (.inr ⟨b,off,rfl,hb,hc⟩)
theorem KRd.empty [Inhabited α] {w:World} {xs:List α} (h:KRd K w none xs):xs=[]:=by
 rcases h with e|⟨b,off,e,_⟩
 · exact e
 · cases e
theorem KRd.lt [Inhabited α] {w:World} {b off:Nat} {xs:List α} (h:KRd K w (some ⟨b,off,none⟩) xs) (h0:0<xs.length):b<w.heap.size:=by
 obtain ⟨b',off',e',hb,_⟩:=Rd.at h h0
 cases e';exact hb
theorem KRd.addr [Inhabited α] {w:World} {a:Option Addr} {xs:List α} (h:KRd K w a xs) (h0:0<xs.length):∃ b off,a=some ⟨b,off,none⟩∧b<w.heap.size:=by
 obtain ⟨b,off,e,hb,_⟩:=Rd.at h h0
 exact ⟨b,off,e,hb⟩
theorem KRd.drop [Inhabited α] {w:World} {b off:Nat} {xs:List α} (h:KRd K w (some ⟨b,off,none⟩) xs) (i:Nat):KRd K w (some ⟨b,off+i*K.sz,none⟩) (xs.drop i):=by
 by_cases hi:i<xs.length
 · obtain ⟨b',off',e,hb,hc⟩:=Rd.at h hi
   cases e
   refine .inr ⟨b,_,rfl,hb,fun k hk=>?_⟩
   simp only [List.length_drop] at hk;have:=hc (i+k) qO;rw [zaba]
   have e:off+i*K.sz+k*K.sz=off+(i+k)*K.sz:=by rw [Nat.add_mul,Nat.add_assoc]
   show K.lay.At w b (off+i*K.sz+k*K.sz) _
   rw [e];exact this
 · exact .inl (List.drop_eq_nil_of_le qO)
theorem KRd.take [Inhabited α] {w:World} {a:Option Addr} {xs:List α} (h:KRd K w a xs) (i:Nat):KRd K w a (xs.take i):=by
 rcases h with e|⟨b,off,e,hb,hc⟩
 · exact .inl (by simp [e])
 · refine .inr ⟨b,off,e,hb,fun k hk=>?_⟩
   simp only [List.length_take] at hk;rw [zabt qO]
   exact hc k qO
theorem KRd.setCell [Inhabited α] {w:World} {a:Option Addr} {xs:List α} (h:KRd K w a xs) (p:Addr) (v:Value) (hne:∀ b o,a=some ⟨b,o,none⟩→b≠p.block):KRd K (w.setCell p v) a xs:=by
 rcases h with e|⟨b,off,e,hb,h⟩
 · exact .inl e
 · refine .inr ⟨b,off,e,by simpa [World.setCell] using hb,fun k hk j u hj=>?_⟩
   rw [World.cell?_of_block (w:=w) (Deep.blk_setCell_other _ _ _ _ (hne b off e))]
   exact h k hk j u hj
def KOwn (K:Kind α) (T:TypeId) (w:World) (B:Nat) (v:Value) (xs:List α):Prop:=w.ownsRow B T K.sz v xs.length (K.flat xs)
variable {T:TypeId} {w w':World} {B:Nat} {v:Value} {xs:List α}
theorem KOwn.below (h:KOwn K T w B v xs) (hb:Below w.heap.size w w'):KOwn K T w' B v xs:=zan2 h hb
theorem KOwn.alloc [Inhabited α] (h:KOwn K T w B v xs) (o:Obj):KOwn K T (w.alloc o) B v xs:=h.below ((Below.refl _ _).alloc (Nat.le_refl _) o)
theorem KOwn.mono (h:KOwn K T w B v xs) {B':Nat} (hB:B'≤B):KOwn K T w B' v xs:=zap5 h hB
theorem KOwn.setCell (h:KOwn K T w B v xs) {p:Addr} (hp:p.block<B) (u:Value):KOwn K T (w.setCell p u) B v xs:=ownsRow_setCell_below h hp u
theorem KOwn.setOther (h:KOwn K T w B v xs) {p:Addr} (hp:v.ownBlock≠some p.block) (u:Value):KOwn K T (w.setCell p u) B v xs:=ownsRow_setCell_other h hp u
theorem KOwn.nil:KOwn K T w B (.slice none 0 0) ([]:List α):=World.ownsRow_nil _ _ _ _
theorem KOwn.lit (w:World) (B:Nat) (hB:B≤w.heap.size):KOwn K T (w.alloc (.cells #[] T)) B (.slice (some ⟨w.heap.size,0,none⟩) 0 0) ([]:List α):=by
 refine World.ownsRow_lit w #[] 0 hB (by decide) qP
theorem KOwn.form [Inhabited α] (h:KOwn K T w B v xs):∃ a c,v=.slice a xs.length c∧xs.length≤c∧c≤maxLen∧KRd K w a xs∧(a=none→v=.slice none 0 0)∧∀ b o,a=some ⟨b,o,none⟩→B≤b∧b<w.heap.size∧v.ownBlock=some b∧o=0:=by
 have h0:=h
 rcases h.2 with ⟨e,hn⟩|⟨g,cap,cur,e,hB,hg,hn,hc,hs,ht⟩
 · exact ⟨none,0,by rw [e,hn],by omega,by omega,.inl (List.eq_nil_of_length_eq_zero hn),fun _=>e,fun b o e=>by cases e⟩
 · have hlt:=(Array.getElem?_eq_some_iff.1 hg).1
   refine ⟨some ⟨g,0,none⟩,cap,e,hn,hc,KRd.mk hlt fun j u hu=>?_,fun e=>by simp at e,fun b o e'=>by cases e';exact ⟨hB,hlt,by rw [e];rfl,rfl⟩⟩
   have:=World.ownsRow.cells h0 (g:=g) (by rw [e];rfl) j u hu
   rwa [Addr.add_lit] at this
theorem KOwn.rd [Inhabited α] (h:KOwn K T w B v xs):∃ a c,v=.slice a xs.length c∧xs.length≤c∧c≤9223372036854775807∧KRd K w a xs:=by
 obtain ⟨a,c,h1,h2,h3,h4,_⟩:=h.form
 exact ⟨a,c,h1,h2,by unfold maxLen at h3;omega,h4⟩
theorem KOwn.sl [Inhabited α] (h:KOwn K T w B v xs):∃ a c,v=.slice a xs.length c:=by
 obtain ⟨a,c,h1,_⟩:=h.form
 exact ⟨a,c,h1⟩
theorem KOwn.row (h:KOwn K T w B v xs) (h0:0<xs.length):∃ g cap f,v=.slice (some ⟨g,0,none⟩) xs.length cap∧B≤g∧xs.length≤cap∧cap≤maxLen∧w.rowIs g T (cap*K.sz) f∧∀ j u,(K.flat xs)[j]?=some u→f j=u:=by
 rcases h.2 with ⟨_,hn⟩|⟨g,cap,cur,e,hB,hg,hn,hc,hs,ht⟩
 · omega
 · refine ⟨g,cap,fun i=>cur.getD i undef,e,hB,hn,hc,⟨cur,hg,hs,fun i hi=>by simp [hs,hi]⟩,fun j u hj=>?_⟩
   rw [← ht] at hj;have hjl:=(List.getElem?_eq_some_iff.1 hj).1;simp only [List.length_take] at hjl;rw [List.getElem?_take_of_lt qO] at hj
   simp at hj
   simp [hj]
theorem KOwn.ofRow [Inhabited α] {g cap:Nat} {f:Nat→Value} (hB:B≤g) (hn:xs.length≤cap) (hc:cap≤maxLen) (hr:w.rowIs g T (cap*K.sz) f) (hf:∀ j u,(K.flat xs)[j]?=some u→f j=u):KOwn K T w B (.slice (some ⟨g,0,none⟩) xs.length cap) xs:=by
 obtain ⟨cur,hg,hs,hcur⟩:=hr
 refine ⟨zaau xs,.inr ⟨g,cap,cur,rfl,hB,hg,hn,hc,hs,?_⟩⟩
 have hle:xs.length*K.sz≤cap*K.sz:=Nat.mul_le_mul_right _ hn
 apply List.ext_getElem?
 intro j
 by_cases hj:j<xs.length*K.sz
 · rw [List.getElem?_take_of_lt hj,Array.getElem?_toList,hcur j qO]
   have hj':j<(K.flat xs).length:=by rw [zaau];exact hj
   rw [List.getElem?_eq_getElem hj']
   congr 1
   exact hf j _ (List.getElem?_eq_getElem hj')
 · rw [List.getElem?_eq_none (by simp;omega),List.getElem?_eq_none (by rw [zaau];omega)]
end
structure Lg where
 frm:Int
 to:Int
 east:Int
 north:Int
 up:Int
 deriving DecidableEq,Inhabited
def Lg.val (g:Lg):Value:=.agg #[.int .i64 g.frm,.int .i64 g.to,.int .i64 g.east,.int .i64 g.north,.int .i64 g.up]
def legK:Kind Lg where
 sz:=5
 cells g:=[.int .i64 g.frm,.int .i64 g.to,.int .i64 g.east,.int .i64 g.north,.int .i64 g.up]
 len _:=rfl
 one _ u hu:=by simp only [List.mem_cons,List.not_mem_nil,or_false] at hu;rcases hu with rfl|rfl|rfl|rfl|rfl <;> rfl
abbrev Legs:=KRd legK
theorem Legs.at {w:World} {a:Option Addr} {xs:List Lg} (h:Legs w a xs) {k:Nat} (hk:k<xs.length) :
 ∃ b off,a=some ⟨b,off,none⟩∧b<w.heap.size∧w.cell? ⟨b,off+k*5,none⟩=some (.int .i64 (nth xs k).frm)∧w.cell? ⟨b,off+k*5+1,none⟩=some (.int .i64 (nth xs k).to) ∧
   w.cell? ⟨b,off+k*5+2,none⟩=some (.int .i64 (nth xs k).east)∧w.cell? ⟨b,off+k*5+3,none⟩=some (.int .i64 (nth xs k).north)∧w.cell? ⟨b,off+k*5+4,none⟩=some (.int .i64 (nth xs k).up):=by
 obtain ⟨b,off,e,hb,h⟩:=Rd.at h hk;have:=h k hk
 exact ⟨b,off,e,hb,this 0 _ rfl,this 1 _ rfl,this 2 _ rfl,this 3 _ rfl,this 4 _ rfl⟩
structure Dd where
 kind:Int
 index:Int
 leg:Lg
 deriving DecidableEq,Inhabited
def Dd.val (d:Dd):Value:=.agg #[.int .i64 d.kind,.int .i64 d.index,.int .i64 d.leg.frm,.int .i64 d.leg.to,.int .i64 d.leg.east,.int .i64 d.leg.north,.int .i64 d.leg.up]
def ddK:Kind Dd where
 sz:=7
 cells d:=[.int .i64 d.kind,.int .i64 d.index,.int .i64 d.leg.frm,.int .i64 d.leg.to,.int .i64 d.leg.east,.int .i64 d.leg.north,.int .i64 d.leg.up]
 len _:=rfl
 one _ u hu:=by simp only [List.mem_cons,List.not_mem_nil,or_false] at hu;rcases hu with rfl|rfl|rfl|rfl|rfl|rfl|rfl <;> rfl
abbrev Dds:=KRd ddK
theorem Dds.at {w:World} {a:Option Addr} {xs:List Dd} (h:Dds w a xs) {k:Nat} (hk:k<xs.length) :
 ∃ b off,a=some ⟨b,off,none⟩∧b<w.heap.size∧w.cell? ⟨b,off+k*7,none⟩=some (.int .i64 (nth xs k).kind)∧w.cell? ⟨b,off+k*7+1,none⟩=some (.int .i64 (nth xs k).index)∧w.cell? ⟨b,off+k*7+2,none⟩=some (.int .i64 (nth xs k).leg.frm)∧w.cell? ⟨b,off+k*7+3,none⟩=some (.int .i64 (nth xs k).leg.to) ∧
   w.cell? ⟨b,off+k*7+4,none⟩=some (.int .i64 (nth xs k).leg.east)∧w.cell? ⟨b,off+k*7+5,none⟩=some (.int .i64 (nth xs k).leg.north)∧w.cell? ⟨b,off+k*7+6,none⟩=some (.int .i64 (nth xs k).leg.up):=by
 obtain ⟨b,off,e,hb,h⟩:=Rd.at h hk;have:=h k hk
 exact ⟨b,off,e,hb,this 0 _ rfl,this 1 _ rfl,this 2 _ rfl,this 3 _ rfl,this 4 _ rfl,this 5 _ rfl,this 6 _ rfl⟩
structure Sv where
 st:Int
 legs:List Lg
 deriving DecidableEq,Inhabited
structure Bk where
 first:Sv
 done:List Dd
 undone:List Dd
 deriving DecidableEq,Inhabited
def isIdx (n m:Int):Bool:=decide (0≤n) && decide (n<m)
def isIn (n m:Int):Bool:=decide (-m≤n) && decide (n≤m)
def legOk (n:Int) (g:Lg):Bool:=!(decide (n<1) || decide (6<n)) && (isIdx g.frm n && isIdx g.to n && !decide (g.frm=g.to) && (isIn g.east 99 && isIn g.north 99 && isIn g.up 99))
def legsOk (n:Int) (l:List Lg):Bool:=l.all (legOk n)
def svOk (s:Sv):Bool:=!(decide (s.st<1) || decide (6<s.st) || decide (9<s.legs.length)) && legsOk s.st s.legs
theorem zaaq {n:Int} (hn:n≤6) {g:Lg} (h:legOk n g=true):(0≤g.frm∧g.frm<6)∧(0≤g.to∧g.to<6)∧(-99≤g.east∧g.east≤99)∧(-99≤g.north∧g.north≤99)∧(-99≤g.up∧g.up≤99):=by
 simp only [legOk,isIdx,isIn,Bool.and_eq_true,decide_eq_true_eq] at h
 omega
theorem svOk_iff {s:Sv}:svOk s=true↔1≤s.st∧s.st≤6∧s.legs.length≤9∧legsOk s.st s.legs=true:=by
 simp only [svOk,Bool.and_eq_true,Bool.not_eq_true',Bool.or_eq_false_iff,decide_eq_false_iff_not]
 exact ⟨fun ⟨⟨⟨h1,h2⟩,h3⟩,h4⟩=>⟨by omega,by omega,by omega,h4⟩,fun ⟨h1,h2,h3,h4⟩=>⟨⟨⟨by omega,by omega⟩,by omega⟩,h4⟩⟩
theorem zaio {n:Int} {l:List Lg} {k:Nat} (h:k<l.length):legsOk n (l.drop k)=(legOk n (nth l k) && legsOk n (l.drop (k+1))):=by
 rw [zab3 h];rfl
theorem zabq {n:Int} {l:List Lg} (h:legsOk n l=true) {k:Nat} (hk:k<l.length):legOk n (nth l k)=true:=by
 simp only [legsOk,List.all_eq_true] at h
 exact h _ (zaaf hk)
theorem zach {n:Int} (hn:n≤6) {g:Lg} (h:legOk n g=true):legOk 6 g=true:=by
 simp only [legOk,isIdx,isIn,Bool.and_eq_true,Bool.not_eq_true',Bool.or_eq_false_iff,decide_eq_false_iff_not,decide_eq_true_eq] at h ⊢
 omega
def legBack (g:Lg):Lg:=⟨g.to,g.frm,-g.east,-g.north,-g.up⟩
def noLeg:Lg:=⟨0,0,0,0,0⟩
def ddFits (d:Dd):Bool :=
 if d.kind=0∨d.kind=3 then true else if d.kind=1∨d.kind=2 then decide (d.leg=noLeg) else if d.kind=4∨d.kind=5 then decide (d.leg=noLeg) && decide (d.index=0) else false
def places (s:Sv) (kind:Int):Int:=if kind=0 then s.legs.length+1 else s.legs.length
def ddTry (s:Sv) (d:Dd):Option Sv :=
 let i:=d.index.toNat
 if d.kind=0 then (if 0≤d.index∧d.index≤s.legs.length then some ⟨s.st,s.legs.take i ++ d.leg :: s.legs.drop i⟩ else none)
 else if d.kind=1 then (if 0≤d.index∧d.index<s.legs.length∧d.leg=noLeg then some ⟨s.st,s.legs.take i ++ s.legs.drop (i+1)⟩ else none)
 else if d.kind=2 then (if 0≤d.index∧d.index<s.legs.length∧d.leg=noLeg then some ⟨s.st,s.legs.set i (legBack (nth s.legs i))⟩ else none)
 else if d.kind=3 then (if 0≤d.index∧d.index<s.legs.length∧d.leg≠nth s.legs i then some ⟨s.st,s.legs.set i d.leg⟩ else none)
 else if d.kind=4 then (if d.index=0∧d.leg=noLeg then some ⟨s.st+1,s.legs⟩ else none)
 else if d.kind=5 then (if d.index=0∧d.leg=noLeg then some ⟨s.st - 1,s.legs⟩ else none)
 else none
def zeroSv:Sv:=⟨0,[]⟩
def ddDo (s:Sv) (d:Dd):Sv × Bool :=
 if svOk s then match ddTry s d with
  | some t=>if svOk t then (t,true) else (s,false)
  | none=>(s,false)
 else (zeroSv,false)
theorem zagr {s:Sv} {d:Dd} (h:svOk s=false):ddDo s d=(zeroSv,false):=by simp [ddDo,h]
theorem zab7 {s:Sv} {d:Dd} (h:svOk s=true) (ht:ddTry s d=none):ddDo s d=(s,false):=by simp [ddDo,h,ht]
theorem zaa9 {s t:Sv} {d:Dd} (h:svOk s=true) (ht:ddTry s d=some t) (hk:svOk t=true):ddDo s d=(t,true):=by simp [ddDo,h,ht,hk]
theorem zaa2 {s t:Sv} {d:Dd} (h:svOk s=true) (ht:ddTry s d=some t) (hk:svOk t=false):ddDo s d=(s,false):=by simp [ddDo,h,ht,hk]
theorem zalj {s:Sv} {d:Dd} (h:(ddDo s d).2=true):svOk s=true∧ddTry s d=some (ddDo s d).1∧svOk (ddDo s d).1=true:=by
 cases hs:svOk s
 · rw [zagr hs] at h;cases h
 · cases ht:ddTry s d with
   | none=>rw [zab7 hs ht] at h;cases h
   | some t =>
     cases hk:svOk t
     · rw [zaa2 hs ht hk] at h;cases h
     · rw [zaa9 hs ht hk];exact ⟨rfl,rfl,hk⟩
theorem zaew {s:Sv} {d:Dd} (h:svOk s=true):svOk (ddDo s d).1=true:=by
 cases h2:(ddDo s d).2
 · cases ht:ddTry s d with
   | none=>rw [zab7 h ht];exact h
   | some t =>
     cases hk:svOk t
     · rw [zaa2 h ht hk];exact h
     · rw [zaa9 h ht hk] at h2;cases h2
 · exact (zalj h2).2.2
def noDd:Dd:=⟨0,0,noLeg⟩
def runFrom (s:Sv):List Dd→Sv × Nat
 | []=>(s,0)
 | d :: l=>if (ddDo s d).2 then ((runFrom (ddDo s d).1 l).1,(runFrom (ddDo s d).1 l).2+1) else (s,0)
def ddRun (s:Sv) (l:List Dd):Sv × Nat:=if svOk s then runFrom s l else (zeroSv,0)
theorem zaex:∀ (l:List Dd) (s:Sv),(runFrom s l).2≤l.length
 | [],_=>Nat.le_refl _
 | d :: l,s=>by
   simp only [runFrom]
   split
   · have:=zaex l (ddDo s d).1;simp;omega
   · simp
theorem zacp:∀ (l:List Dd) (s:Sv),svOk s=true→svOk (runFrom s l).1=true
 | [],_,h=>h
 | d :: l,s,h=>by
   simp only [runFrom]
   split
   · exact zacp l _ (zaew h)
   · exact h
theorem zacg:∀ (l m:List Dd) (s:Sv),(runFrom s l).2=l.length→runFrom s (l ++ m)=((runFrom (runFrom s l).1 m).1,l.length+(runFrom (runFrom s l).1 m).2)
 | [],m,s,_=>by simp [runFrom]
 | d :: l,m,s,h=>by
   simp only [runFrom] at h ⊢
   split at h
   · rename_i hd
     simp only [List.cons_append,runFrom,if_pos hd];rw [zacg l m (ddDo s d).1 (by simpa using h)];simp only [Prod.mk.injEq,List.length_cons,true_and];omega
   · simp at h
theorem zack:∀ (l m:List Dd) (s:Sv),(runFrom s l).2<l.length→runFrom s (l ++ m)=runFrom s l
 | [],m,s,h=>by simp at h
 | d :: l,m,s,h=>by
   simp only [runFrom] at h ⊢
   split at h
   · rename_i hd
     simp only [List.cons_append,runFrom,if_pos hd];rw [zack l m (ddDo s d).1 (by simpa using h)]
   · rename_i hd
     simp only [List.cons_append,runFrom,if_neg hd]
def bkOk (b:Bk):Bool:=svOk b.first && !decide (40<b.done.length+b.undone.length) && decide ((ddRun b.first (b.done ++ b.undone.reverse)).2=b.done.length+b.undone.length)
theorem zacl {s:Sv} (h:svOk s=true) (l:List Dd):ddRun s l=runFrom s l:=by simp [ddRun,h]
theorem zahk {s:Sv} (h:svOk s=false) (l:List Dd):ddRun s l=(zeroSv,0):=by simp [ddRun,h]
theorem bkOk_iff {b:Bk}:bkOk b=true↔svOk b.first=true∧b.done.length+b.undone.length≤40∧(runFrom b.first b.done).2=b.done.length∧(runFrom (runFrom b.first b.done).1 b.undone.reverse).2=b.undone.length:=by
 simp only [bkOk,Bool.and_eq_true,Bool.not_eq_true',decide_eq_false_iff_not,decide_eq_true_iff]
 constructor
 · rintro ⟨⟨h1,h2⟩,h3⟩
   rw [zacl h1] at h3
   refine ⟨h1,by omega,?_⟩
   have hle:=zaex b.done b.first
   by_cases hlt:(runFrom b.first b.done).2=b.done.length
   · rw [zacg _ _ _ hlt] at h3
     exact ⟨hlt,by simp at h3;omega⟩
   · rw [zack _ _ _ qO] at h3;omega
 · rintro ⟨h1,h2,h3,h4⟩
   refine ⟨⟨h1,by omega⟩,?_⟩;rw [zacl h1,zacg _ _ _ h3,h4]
def bkNow (b:Bk):Sv:=if bkOk b then (runFrom b.first b.done).1 else zeroSv
def zeroBk:Bk:=⟨zeroSv,[],[]⟩
def bkDo (b:Bk) (d:Dd):Bk × Bool :=
 if bkOk b then (if (ddDo (bkNow b) d).2=true∧b.done.length≠40 then (⟨b.first,b.done ++ [d],[]⟩,true) else (b,false)) else (zeroBk,false)
def bkUndo (b:Bk):Bk × Bool :=
 if bkOk b then (if b.done.length=0 then (b,false) else (⟨b.first,b.done.take (b.done.length - 1),b.undone ++ [nth b.done (b.done.length - 1)]⟩,true)) else (zeroBk,false)
def bkRedo (b:Bk):Bk × Bool :=
 if bkOk b then (if b.undone.length=0 then (b,false) else (⟨b.first,b.done ++ [nth b.undone (b.undone.length - 1)],b.undone.take (b.undone.length - 1)⟩,true)) else (zeroBk,false)
open Go Go.RowKit Go.Deep Go.ChangeShapes Go.WideShapes Go.ChangeMaps
section
variable {H:Type} {enc:TypeId × Value→H} {P:Program} {w:World} {base fuel:Nat} {spare:Nat→Bool} {held:Bool}
theorem zauy {w:World} {x:Addr} {v:Value} (h:w.cell? (x.add 0)=some v):x=⟨x.block,x.off,none⟩:=by
 obtain ⟨b,o,s⟩:=x
 have:s=none:=by simpa [Addr.add] using World.cell?_spot h
 subst this
 rfl
end
def bitZ (m k:Nat):Int:=if m.testBit k then 1 else 0
theorem zat1 {m k:Nat} (h:m.testBit k=true):bitZ m k=1:=by simp [bitZ,h]
theorem zaso {m k:Nat} (h:m.testBit k=false):bitZ m k=0:=by simp [bitZ,h]
theorem zaxn (m k:Nat):((m:Int) / 2 ^ k) % 2=bitZ m k:=by
 have e:((m:Int) / 2 ^ k) % 2=((m / 2 ^ k % 2:Nat):Int):=qP;rw [e,bitZ,Nat.testBit_eq_decide_div_mod_eq]
 by_cases h:m / 2 ^ k % 2=1
 · simp [h]
 · have:m / 2 ^ k % 2=0:=by omega
   simp [this]
theorem zadr {a:Nat} (ha:a<18446744073709551616):(BitVec.ofInt 64 (a:Int)).toNat=a:=by
 rw [BitVec.ofInt_natCast,BitVec.toNat_ofNat];exact Nat.mod_eq_of_lt qO
theorem zaoi (a b:Nat) (ha:a<9223372036854775808) (hb:b<9223372036854775808):bits .and .i64 (a:Int) (b:Int)=((a &&& b:Nat):Int):=by
 have hx:a &&& b<2 ^ 63:=Nat.and_lt_two_pow _ qO
 show IntKind.i64.wrap ((BitVec.ofInt 64 (a:Int) &&& BitVec.ofInt 64 (b:Int)).toNat:Int)=_
 rw [BitVec.toNat_and,zadr qO,zadr qO,IntKind.wrap_i64]
 omega
theorem zaqv (a b:Nat) (ha:a<9223372036854775808) (hb:b<9223372036854775808):bits .or .i64 (a:Int) (b:Int)=((a ||| b:Nat):Int):=by
 have hx:a ||| b<2 ^ 63:=Nat.or_lt_two_pow qO qO
 show IntKind.i64.wrap ((BitVec.ofInt 64 (a:Int) ||| BitVec.ofInt 64 (b:Int)).toNat:Int)=_
 rw [BitVec.toNat_or,zadr qO,zadr qO,IntKind.wrap_i64]
 omega
theorem zaxo (m k:Nat) (hm:m<9223372036854775808):bits .and .i64 ((m:Int) / 2 ^ k) 1=bitZ m k:=by
 have e:((m:Int) / 2 ^ k)=((m / 2 ^ k:Nat):Int):=qP;have h1:m / 2 ^ k≤m:=Nat.div_le_self _ _;have h:=zaoi (m / 2 ^ k) 1 qO qO;rw [Nat.and_one_is_mod] at h;rw [e]
 exact h.trans (by rw [← zaxn];simp)
theorem zahj {n k:Nat} (h:n≤k):2 ^ n≤2 ^ k:=Nat.pow_le_pow_right qO h
theorem zavy {n:Nat} (h:n≤62):wrap64 (2 ^ n)=2 ^ n:=by
 have h1:(2:Nat) ^ n≤2 ^ 62:=zahj h;have h2:((2:Int) ^ n)=((2 ^ n:Nat):Int):=qP;rw [h2];generalize (2:Nat) ^ n=p at *
 exact IntWalk.wrap64_in _ ⟨by omega,by omega⟩
structure KInfo {α:Type} (P:Program) (K:Kind α) (T t:TypeId):Prop where
 und:P.underlying t=some (.slice T)
 info:∃ i z bytes,P.info? T=some i∧i.zero=some z∧i.size=K.sz∧i.bytes=bytes∧z.cells.size=K.sz∧bytes≤64
 pos:0<K.sz
section
variable {P:Program} {α:Type} {K:Kind α} {T t:TypeId}
theorem KOwn.lt {w:World} {B:Nat} {v:Value} {xs:List α} (h:KOwn K T w B v xs) {k:Nat} (hk:v.ownBlock=some k):B≤k∧k<w.heap.size:=World.ownsRow.lt h k hk
theorem zajo [Inhabited α] (I:KInfo P K T t) {w:World} {B:Nat} {v:Value} {xs ys:List α} (ty:TypeId) (hown:KOwn K T w B v xs) {A:Option Addr} (c:Nat) (hy:KRd K w A ys) (hl:xs.length≤2097160) (hl2:ys.length≤2097160) (hB:B≤w.heap.size) :
 ∃ av cv w',(Builtin.append_ #[t,t] ty #[v,.slice A ys.length c]).run P w=.ok (.slice av (xs ++ ys).length cv) w'∧KOwn K T w' B (.slice av (xs ++ ys).length cv) (xs ++ ys)∧w.grownBy w' v.ownBlock∧Below B w w' ∧
   ((Value.slice av (xs ++ ys).length cv).ownBlock=v.ownBlock∨(Value.slice av (xs ++ ys).length cv).ownBlock=some w.heap.size):=by
 obtain ⟨i,z,bytes,hi,hz0,hz1,hz2,hz3,hz4⟩:=I.info
 cases A with
 | none =>
   obtain rfl:=hy.empty;obtain ⟨a,c',e,_⟩:=hown.form
   have hrun:(Builtin.append_ #[t,t] ty #[v,.slice none 0 c]).run P w=.ok v w:=by
    rcases hown.2 with ⟨rfl,_⟩|⟨g,cap,cur,rfl,_,_,hnc,_⟩
    · simp [Builtin.append_,run_underlying I.und,sizeOf,typeInfo,hi,Builtin.lenOf,Builtin.firstCells]
    · simp [Builtin.append_,run_underlying I.und,sizeOf,typeInfo,hi,Builtin.lenOf,Builtin.firstCells,hnc,storeCells]
   refine ⟨a,c',w,?_,?_,World.grownBy.refl w _,Below.refl _ _,?_⟩
   · rw [List.append_nil,← e];exact hrun
   · rw [List.append_nil,← e];exact hown
   · rw [List.append_nil,← e];exact .inl rfl
 | some ad =>
   have hb1:(xs.length+ys.length)*bytes≤140737488355328:=Nat.le_trans (Nat.mul_le_mul_left _ hz4) qO;obtain ⟨v',w',hr,h2,h3,h4,h5⟩:=run_append_own_at (P:=P) w B t ty T i z K.sz bytes I.und hi hz0 hz1 hz2 hz3 I.pos v xs.length _ hown ad ys.length c (K.flat ys) (zaau ys) hy.cellsA (zajq ys) (by unfold maxLen;omega) hb1 hB
   have h2':KOwn K T w' B v' (xs ++ ys):=by unfold KOwn;rw [List.length_append,zai4];exact h2
   obtain ⟨a,c',rfl⟩:=h2'.sl
   exact ⟨a,c',w',hr,h2',h3,zaga h3 hB fun k hk=>(hown.lt hk).1,h5⟩
theorem zaaj [Inhabited α] (I:KInfo P K T t) {w:World} {ops:Array Oper} {rest:List Oper} {o:Oper} {a:Act} {Q:Exit→Act→World→Prop} (s x:Operand) (hw:Region.wanted o (yielded ops a.tmps)=true)
 (hop:o.op=.call { callee:=.builtin .append,args:=#[s,x],argTypes:=#[t,t] }) (B:Nat) (v:Value) (xs ys:List α) (A:Option Addr) (c:Nat) (hs:a.eval s=v)
 (hown:KOwn K T w B v xs) (hx:a.eval x=.slice A ys.length c) (hy:KRd K w A ys) (hl:xs.length≤2097160) (hl2:ys.length≤2097160) (hB:B≤w.heap.size)
 (hK:∀ av cv w',KOwn K T w' B (.slice av (xs ++ ys).length cv) (xs ++ ys)→w.grownBy w' v.ownBlock→Below B w w'→((Value.slice av (xs ++ ys).length cv).ownBlock=v.ownBlock∨(Value.slice av (xs ++ ys).length cv).ownBlock=some w.heap.size)→wpList P ops Q rest (a.put o.dst (.slice av (xs ++ ys).length cv)) w'):wpList P ops Q (o :: rest) a w:=by
 refine BigFrame.wpList_want hw fun K' hK'=>?_
 obtain ⟨av,cv,w',hr,h1,h2,h3,h4⟩:=zajo I o.type hown c hy hl hl2 hB;unfold Oper.wp execOp;simp only [hop,resolve,invoke,builtin,Sem.run_bind,Sem.run_pure,Result.andThen_ok,List.map_toArray,List.map_cons,List.map_nil,hs,hx,hr]
 exact hK' _ _ (hK av cv w' h1 h2 h3 h4)
theorem zaen [Inhabited α] (I:KInfo P K T t) {w:World} {ops:Array Oper} {o:Oper} {a:Act} {K':Act→World→Prop} {Q:Exit→Act→World→Prop} {E:Prop} (s x:Operand) (hg:o.guard=none)
 (hop:o.op=.call { callee:=.builtin .append,args:=#[s,x],argTypes:=#[t,t] }) (B:Nat) (v:Value) (xs ys:List α) (A:Option Addr) (c:Nat) (hs:a.eval s=v)
 (hown:KOwn K T w B v xs) (hx:a.eval x=.slice A ys.length c) (hy:KRd K w A ys) (hl:xs.length≤2097160) (hl2:ys.length≤2097160) (hB:B≤w.heap.size)
 (hK:∀ av cv w',KOwn K T w' B (.slice av (xs ++ ys).length cv) (xs ++ ys)→w.grownBy w' v.ownBlock→Below B w w'→((Value.slice av (xs ++ ys).length cv).ownBlock=v.ownBlock∨(Value.slice av (xs ++ ys).length cv).ownBlock=some w.heap.size)→K' (a.put o.dst (.slice av (xs ++ ys).length cv)) w') :
 if Region.wanted o (yielded ops a.tmps)=true then Oper.wp P o a w K' Q else E:=by
 have hw:Region.wanted o (yielded ops a.tmps)=true:=by simp [Region.wanted,hg]
 rw [if_pos hw];obtain ⟨av,cv,w',hr,h1,h2,h3,h4⟩:=zajo I o.type hown c hy hl hl2 hB;unfold Oper.wp execOp;simp only [hop,resolve,invoke,builtin,Sem.run_bind,Sem.run_pure,Result.andThen_ok,List.map_toArray,List.map_cons,List.map_nil,hs,hx,hr]
 exact hK av cv w' h1 h2 h3 h4
theorem zaa6 [Inhabited α] (I:KInfo P K T t) {w:World} {ops:Array Oper} {o:Oper} {a:Act} {K':Act→World→Prop} {Q:Exit→Act→World→Prop} {E:Prop} (s x:Operand) (hg:o.guard=none)
 (hop:o.op=.call { callee:=.builtin .append,args:=#[s,x],argTypes:=#[t,t] }) (B:Nat) (v:Value) (xs ys zs:List α) (hz:xs ++ ys=zs) (m:Nat) (hm:ys.length=m) (A:Option Addr) (c:Nat) (hs:a.eval s=v)
 (hown:KOwn K T w B v xs) (hx:a.eval x=.slice A m c) (hy:KRd K w A ys) (hl:xs.length≤2097160) (hl2:ys.length≤2097160) (hB:B≤w.heap.size)
 (hK:∀ av cv w',KOwn K T w' B (.slice av zs.length cv) zs→w.grownBy w' v.ownBlock→Below B w w'→K' (a.put o.dst (.slice av zs.length cv)) w') :
 if Region.wanted o (yielded ops a.tmps)=true then Oper.wp P o a w K' Q else E:=by
 subst hz hm
 exact zaen I s x hg hop B v xs ys A c hs hown hx hy hl hl2 hB fun av cv w' h1 h2 h3 _=>hK av cv w' h1 h2 h3
end
theorem zaec {T:TypeId} {N:Nat} (g:Nat):∀ (vs:List Value) (o:Nat) (w:World) (f:Nat→Value),w.rowIs g T N f→(w.setCells g o vs).rowIs g T N (fun j=>if o≤j∧j<o+vs.length then vs.getD (j - o) undef else f j)
 | [],o,w,f,h=>World.rowIs.congr h fun j _=>by rw [if_neg qP]
 | v :: r,o,w,f,h=>by
   rw [World.setCells]
   refine World.rowIs.congr (zaec g r (o+1) _ _ (World.rowIs.set h o v)) fun j _=>?_
   simp only [List.length_cons]
   by_cases e1:o+1≤j∧j<o+1+r.length
   · rw [if_pos e1,if_pos qO,show j - o=(j - (o+1))+1 by omega]
     rfl
   · rw [if_neg e1]
     by_cases e2:j=o
     · subst e2;rw [if_pos rfl,if_pos qO];simp
     · rw [if_neg e2,if_neg qO]
theorem zagj {T:TypeId} {N g g':Nat} {f:Nat→Value}:∀ (vs:List Value) (o:Nat) (w:World),w.rowIs g T N f→g≠g'→(w.setCells g' o vs).rowIs g T N f
 | [],_,_,h,_=>h
 | v :: r,o,w,h,hg=>by
   rw [World.setCells]
   exact zagj r (o+1) _ (World.rowIs.setOther h hg v) hg
theorem zabp {B:Nat} {w:World} (g:Nat) (hg:B≤g):∀ (vs:List Value) (o:Nat) (w':World),Below B w w'→Below B w (w'.setCells g o vs)
 | [],_,_,h=>h
 | v :: r,o,w',h=>by rw [World.setCells];exact zabp g hg r (o+1) _ (h.setCell hg v)
section
variable {α:Type} {K:Kind α} {T t:TypeId} {w w':World} {g cap:Nat} {F:Nat→Option α}
def KRow (K:Kind α) (T:TypeId) (w:World) (g cap:Nat) (F:Nat→Option α):Prop :=
 ∃ f,w.rowIs g T (cap*K.sz) f∧∀ k x,k<cap→F k=some x→∀ r u,(K.cells x)[r]?=some u→f (k*K.sz+r)=u
theorem KRow.below (h:KRow K T w g cap F) (hb:Below w.heap.size w w'):KRow K T w' g cap F:=by
 obtain ⟨f,h1,h2⟩:=h;exact ⟨f,rowIs_below h1 hb,h2⟩
where rowIs_below {w w':World} {b t n:Nat} {f:Nat→Value} (h:w.rowIs b t n f) (hb:Below w.heap.size w w'):w'.rowIs b t n f:=h.of_block (hb.block b h.lt)
theorem KRow.lt (h:KRow K T w g cap F):g<w.heap.size:=by obtain ⟨f,h1,_⟩:=h;exact h1.lt
theorem KRow.drew (h:KRow K T w g cap F):KRow K T w.drew g cap F:=h
theorem KRow.shape (h:KRow K T w g cap F):w.shape? g=some (T,cap*K.sz):=by
 obtain ⟨f,⟨c,hb,hn,_⟩,_⟩:=h
 simp [World.shape?,hb,hn]
theorem KRow.has (h:KRow K T w g cap F) {j:Nat} (hj:j<cap*K.sz):(w.cell? ⟨g,j,none⟩).isSome=true:=by
 obtain ⟨f,h1,_⟩:=h;rw [h1.cell hj];rfl
theorem KRow.free (h:KRow K T w g cap F) (j:Nat):w.frozen? ⟨g,j,none⟩=false:=by
 obtain ⟨f,h1,_⟩:=h;exact h1.frozen j
theorem zah1 {k cap sz r:Nat} (hk:k<cap) (hr:r<sz):k*sz+r<cap*sz:=by
 have:(k+1)*sz≤cap*sz:=Nat.mul_le_mul_right _ hk;rw [Nat.succ_mul] at this;omega
theorem KRow.at (h:KRow K T w g cap F) {k:Nat} {x:α} (hk:k<cap) (hx:F k=some x) {r:Nat} {u:Value} (hr:(K.cells x)[r]?=some u):w.cell? ⟨g,k*K.sz+r,none⟩=some u:=by
 obtain ⟨f,h1,h2⟩:=h
 have hrs:r<K.sz:=by have:=(List.getElem?_eq_some_iff.1 hr).1;rwa [K.len] at this
 rw [h1.cell (zah1 hk hrs),h2 k x hk hx r u hr]
theorem KRow.congr (h:KRow K T w g cap F) {G:Nat→Option α} (e:∀ k,k<cap→∀ x,G k=some x→F k=some x):KRow K T w g cap G:=by
 obtain ⟨f,h1,h2⟩:=h;exact ⟨f,h1,fun k x hk hx=>h2 k x hk (e k hk x hx)⟩
theorem KRow.setCellsOther (h:KRow K T w g cap F) {g':Nat} (hp:g≠g') (o:Nat) (vs:List Value):KRow K T (w.setCells g' o vs) g cap F:=by
 obtain ⟨f,h1,h2⟩:=h;exact ⟨f,zagj vs o w h1 hp,h2⟩
theorem KRow.put [Inhabited α] (h:KRow K T w g cap F) (o:Nat) (ys:List α):KRow K T (w.setCells g (o*K.sz) (K.flat ys)) g cap (fun k=>if o≤k∧k<o+ys.length then some (nth ys (k - o)) else F k):=by
 obtain ⟨f,h1,h2⟩:=h
 refine ⟨_,zaec g _ _ _ _ h1,fun k x hk hx r u hr=>?_⟩
 have hrs:r<K.sz:=by have:=(List.getElem?_eq_some_iff.1 hr).1;rwa [K.len] at this
 rw [zaau]
 change (if _ then _ else _)=_ at hx
 by_cases e:o≤k∧k<o+ys.length
 · rw [if_pos e] at hx
   cases hx
   have e1:o*K.sz≤k*K.sz:=Nat.mul_le_mul_right _ e.1
   have e2:k*K.sz+r - o*K.sz=(k - o)*K.sz+r:=by rw [Nat.sub_mul];omega
   have e3:=zah1 (sz:=K.sz) (r:=r) (show k - o<ys.length by omega) hrs;have e4:(k - o)*K.sz=k*K.sz - o*K.sz:=Nat.sub_mul _ _ _;rw [if_pos ⟨by omega,by omega⟩,e2];have:=zaef ys (k - o) r qO hrs;rw [hr] at this
   simp [this]
 · rw [if_neg e] at hx
   rw [if_neg]
   · exact h2 k x hk hx r u hr
   · rintro ⟨e1,e2⟩
     apply e
     constructor
     · apply Nat.le_of_not_lt
       intro hlt;have:(k+1)*K.sz≤o*K.sz:=Nat.mul_le_mul_right _ hlt;rw [Nat.succ_mul] at this;omega
     · apply Nat.lt_of_not_le
       intro hle;have:(o+ys.length)*K.sz≤k*K.sz:=Nat.mul_le_mul_right _ hle;rw [Nat.add_mul] at this;omega
theorem KRow.rd [Inhabited α] (h:KRow K T w g cap F) (o:Nat) (ys:List α) (hc:o+ys.length≤cap) (hF:∀ k,k<ys.length→F (o+k)=some (nth ys k)):KRd K w (some ⟨g,o*K.sz,none⟩) ys:=by
 refine .inr ⟨g,_,rfl,h.lt,fun k hk r u hr=>?_⟩
 have:=h.at (show o+k<cap by omega) (hF k hk) hr;rw [Nat.add_mul] at this
 exact this
theorem KRow.own [Inhabited α] {B:Nat} (h:KRow K T w g cap F) (hB:B≤g) (zs:List α) (hc:zs.length≤cap) (hm:cap≤maxLen) (hF:∀ k,k<zs.length→F k=some (nth zs k)):KOwn K T w B (.slice (some ⟨g,0,none⟩) zs.length cap) zs:=by
 obtain ⟨f,h1,h2⟩:=h
 refine KOwn.ofRow hB hc hm h1 fun j u hj=>?_
 obtain ⟨k,r,hk,hr,e,hu⟩:=zag3 zs hj;rw [e]
 exact h2 k _ qO (hF k hk) r u hu
theorem KOwn.krow [Inhabited α] {B:Nat} {v:Value} {xs:List α} (h:KOwn K T w B v xs) (h0:0<xs.length):∃ g cap,v=.slice (some ⟨g,0,none⟩) xs.length cap∧B≤g∧xs.length≤cap∧cap≤maxLen∧KRow K T w g cap (fun k=>if k<xs.length then some (nth xs k) else none):=by
 obtain ⟨g,cap,f,e,hB,hn,hm,hr,hf⟩:=h.row h0
 refine ⟨g,cap,e,hB,hn,hm,f,hr,fun k x hk hx r u hu=>?_⟩
 change (if _ then _ else _)=_ at hx
 by_cases hlt:k<xs.length
 · rw [if_pos hlt] at hx
   cases hx
   have hrs:r<K.sz:=by have:=(List.getElem?_eq_some_iff.1 hu).1;rwa [K.len] at this
   exact hf _ _ (by rw [zaef xs k r hlt hrs];exact hu)
 · rw [if_neg hlt] at hx;cases hx
theorem KRow.new (w:World) (cs:Array Value) (hs:cs.size=cap*K.sz) (hF:∀ k x,k<cap→F k=some x→∀ r u,(K.cells x)[r]?=some u→cs[k*K.sz+r]?=some u):KRow K T (w.alloc (.cells cs T)) w.heap.size cap F:=by
 refine ⟨fun j=>cs.getD j undef,?_,fun k x hk hx r u hr=>?_⟩
 · have:=World.rowIs_alloc w cs T (fun j=>cs.getD j undef) (fun i hi=>by simp [hi])
   rw [hs] at this;exact this
 · have:=hF k x hk hx r u hr
   simp [this]
theorem zaf1 [Inhabited α] {P:Program} (I:KInfo P K T t) (ty:TypeId) (h:KRow K T w g cap F) (o dLen dCap:Nat) {A:Option Addr} (sLen sCap:Nat) (ys:List α) (hy:KRd K w A ys) (hn:ys.length=Nat.min sLen dLen) (hfit:o+ys.length≤cap) :
 (Builtin.copy_ #[t,t] ty #[.slice (some ⟨g,o*K.sz,none⟩) dLen dCap,.slice A sLen sCap]).run P w=.ok (goInt ys.length) (w.setCells g (o*K.sz) (K.flat ys)):=by
 obtain ⟨i,z,bytes,hi,hz0,hz1,hz2,hz3,hz4⟩:=I.info
 cases A with
 | none =>
   obtain rfl:=hy.empty
   have hn':Nat.min sLen dLen=0:=by simpa using hn.symm
   simp [Builtin.copy_,run_underlying I.und,Builtin.lenOf,Builtin.firstCells,sizeOf,typeInfo,hi,hn',storeCells,zabi,World.setCells]
 | some a =>
   have hlen:(K.flat ys).length=ys.length*K.sz:=zaau ys
   have hle:o*K.sz+ys.length*K.sz≤cap*K.sz:=by rw [← Nat.add_mul];exact Nat.mul_le_mul_right _ hfit
   have hl:=run_loadCells_list (P:=P) w a (K.flat ys) hy.cellsA;rw [hlen] at hl
   have hst:=run_storeCells_cells (P:=P) g (o*K.sz) (K.flat ys) 0 w (fun j hj=>by rw [hlen] at hj;exact h.has qO) (fun j hj=>h.free _) (zajq ys)
   simp [Builtin.copy_,run_underlying I.und,Builtin.lenOf,Builtin.firstCells,sizeOf,typeInfo,hi,hz1,← hn,hl,hst]
theorem KRow.over (h:KRow K T w g cap F) (o:Nat) (vs:List Value):KRow K T (w.setCells g (o*K.sz) vs) g cap (fun k=>if k<o then F k else none):=by
 obtain ⟨f,h1,h2⟩:=h
 refine ⟨_,zaec g _ _ _ _ h1,fun k x hk hx r u hr=>?_⟩
 have hrs:r<K.sz:=by have:=(List.getElem?_eq_some_iff.1 hr).1;rwa [K.len] at this
 change (if _ then _ else _)=_ at hx
 by_cases e:k<o
 · rw [if_pos e] at hx
   have:=zah1 (sz:=K.sz) e hrs;rw [if_neg qO]
   exact h2 k x hk hx r u hr
 · rw [if_neg e] at hx;cases hx
theorem zaux [Inhabited α] {P:Program} (I:KInfo P K T t) (ty:TypeId) (h:KRow K T w g cap F) (o:Nat) {A:Addr} (m c:Nat) (ys:List α) (hy:KRd K w (some A) ys) (hn:ys.length=m) (hfit:o+m≤cap) :
 (Builtin.append_ #[t,t] ty #[.slice (some ⟨g,0,none⟩) o cap,.slice (some A) m c]).run P w=.ok (.slice (some ⟨g,0,none⟩) (o+m) cap) (w.setCells g (o*K.sz) (K.flat ys)):=by
 obtain ⟨i,z,bytes,hi,hz0,hz1,hz2,hz3,hz4⟩:=I.info;subst hn;have hlen:(K.flat ys).length=ys.length*K.sz:=zaau ys
 have hle:o*K.sz+ys.length*K.sz≤cap*K.sz:=by rw [← Nat.add_mul];exact Nat.mul_le_mul_right _ hfit
 have:=run_append_room_cells (P:=P) w t ty T i I.und hi g 0 o cap A ys.length c (K.flat ys) (by rw [hz1];exact hlen) hy.cellsA (zajq ys) hfit (fun j hj=>by rw [hlen] at hj;rw [hz1,Nat.zero_add];exact h.has qO) (fun j hj=>h.free _)
 rw [hz1,Nat.zero_add] at this
 exact this
theorem zadb (z:Array Value) (n:Nat):(Builtin.zeroCells z n).size=n*z.size:=by simp [Builtin.zeroCells]
theorem zate [Inhabited α] {P:Program} (I:KInfo P K T t) {z:Value} (hz:∀ w,(zeroValue T).run P w=.ok z w) (hzs:z.cells.size=K.sz) (hz1:∀ u ∈ z.cells,u.oneCell'=true) (ty:TypeId) (h:KRow K T w g cap F) (o n c:Nat) (h0:0<n) (hfit:o+n≤cap) :
 (Builtin.clear_ #[t] ty #[.slice (some ⟨g,o*K.sz,none⟩) n c]).run P w=.ok (.tuple #[]) (w.setCells g (o*K.sz) (Builtin.zeroCells z.cells n).toList):=by
 have hle:o*K.sz+n*K.sz≤cap*K.sz:=by rw [← Nat.add_mul];exact Nat.mul_le_mul_right _ hfit
 have hlen:(Builtin.zeroCells z.cells n).toList.length=n*K.sz:=by rw [Array.length_toList,zadb,hzs]
 have hst:=run_storeCells_cells (P:=P) g (o*K.sz) (Builtin.zeroCells z.cells n).toList 0 w (fun j hj=>by rw [hlen] at hj;exact h.has qO) (fun j hj=>h.free _) (by
  intro v hv;obtain ⟨j,hj,e⟩:=List.mem_iff_getElem.1 hv
  have hj':j<(Builtin.zeroCells z.cells n).size:=by simpa using hj
  have hpos:0<z.cells.size:=by
   rcases Nat.eq_zero_or_pos z.cells.size with e0|e0
   · rw [zadb,e0] at hj';simp at hj'
   · exact e0
  have hm:j % z.cells.size<z.cells.size:=Nat.mod_lt _ hpos
  have e2:v=z.cells[j % z.cells.size]!:=by rw [← e];simp [Builtin.zeroCells]
  rw [e2,getElem!_pos z.cells (j % z.cells.size) hm]
  exact hz1 _ (Array.getElem_mem hm))
 simp only [Nat.add_zero] at hst;obtain ⟨m,rfl⟩:∃ m,n=m+1:=⟨n - 1,by omega⟩
 simp [Builtin.clear_,run_underlying I.und,hz,hst]
theorem zatf [Inhabited α] {P:Program} (I:KInfo P K T t) {ti:TypeId} {kn kq:IntKind} (hti:P.underlying ti=some (.int kn)) (ty:TypeId) (h:KRow K T w g cap F) (o m:Nat) (xs:List α) (h0:0<m) (hg:cap<o+m) (ho:xs.length=o) (hF:∀ k,k<o→F k=some (nth xs k)) (hoc:o≤cap) (hb:o+m≤2097160) :
 ∃ c2,o+m≤c2∧c2≤maxLen∧∃ w2,(Builtin.append_ #[t,ti] ty #[.slice (some ⟨g,0,none⟩) o cap,.int kq m]).run P w=.ok (.slice (some ⟨w.heap.size,0,none⟩) (o+m) c2) w2∧KRow K T w2 w.heap.size c2 (fun k=>if k<o then some (nth xs k) else none)∧Below w.heap.size w w2:=by
 obtain ⟨i,z,bytes,hi,hz0,hz1,hz2,hz3,hz4⟩:=I.info
 have hr:=h.rd 0 xs qO (fun k hk=>by rw [Nat.zero_add];exact hF k qO)
 rw [Nat.zero_mul] at hr
 have hold:(Builtin.firstCells i.size o (.slice (some ⟨g,0,none⟩) o cap)).run P w.drew=.ok (K.flat xs).toArray w.drew:=by
  rw [hz1]
  have hl:=run_loadCells_list (P:=P) w.drew ⟨g,0,none⟩ (K.flat xs) (fun j u hj=>hr.cellsA j u hj)
  rw [zaau,ho] at hl
  exact hl
 have hfit:(o+m)*bytes≤140737488355328:=Nat.le_trans (Nat.mul_le_mul_left _ hz4) qO;have hrun:=Lib.run_append_grow_zeros (P:=P) w t ti ty T i z kq kn I.und hti hi hz0 (some ⟨g,0,none⟩) o cap (K.flat xs) hold m h0 (by rw [hz1];exact I.pos) hg qO (by rw [hz2];exact Nat.le_trans (Nat.mul_le_mul_left m hz4) qO) (by rw [hz2];exact growslice_fits hg hfit);have hge:=grownCap_ge w (o+m) cap T
 refine ⟨_,hge,grownCap_le_maxLen w (o+m) cap T (by unfold maxLen;omega),_,hrun,?_,((Below.refl _ _).drew).alloc (Nat.le_refl _) _⟩
 refine KRow.new (w:=w.drew) _ ?_ fun k x hk hx r u hr=>?_
 · simp only [Array.size_append,zadb,hz3,List.size_toArray,zaau,ho,← Nat.add_mul]
   congr 1;omega
 · change (if _ then _ else _)=_ at hx
   by_cases hlt:k<o
   · rw [if_pos hlt] at hx
     cases hx
     have hrs:r<K.sz:=by have:=(List.getElem?_eq_some_iff.1 hr).1;rwa [K.len] at this
     have hpl:k*K.sz+r<(K.flat xs).length:=by rw [zaau];exact zah1 qO hrs
     rw [Array.append_assoc,Array.getElem?_append_left (by simpa using hpl)];have:=zaef xs k r qO hrs;rw [List.getElem?_toArray,this];exact hr
   · rw [if_neg hlt] at hx;cases hx
end
theorem kept {V w':World} (h:Below V.heap.size V w'):Below V.heap.size V w'∧∀ b o,b<V.heap.size→w'.cell? ⟨b,o,none⟩=V.cell? ⟨b,o,none⟩:=⟨h,fun b o hl=>h.cell (p:=⟨b,o,none⟩) hl⟩
theorem keptB {B:Nat} {V w':World} (h:Below B V w'):Below B V w'∧∀ b o,b<B→w'.cell? ⟨b,o,none⟩=V.cell? ⟨b,o,none⟩:=⟨h,fun b o hl=>h.cell (p:=⟨b,o,none⟩) hl⟩
theorem zabv {B:Nat} {V W W':World} (hB:B≤V.heap.size) (h:Below B V W) (c:Below W.heap.size W W'):Below B V W':=h.trans (c.mono (Nat.le_trans hB h.size))
theorem zaae {V W W':World} (h:Below V.heap.size V W) (c:Below W.heap.size W W'):Below V.heap.size V W':=h.trans (c.mono h.size)
theorem zabe {w w':World} {o:Obj} (c:Below (w.alloc o).heap.size (w.alloc o) w'):Below w.heap.size w w':=((Below.refl _ _).alloc (Nat.le_refl _) o).trans (c.mono qP)
theorem KOwn.kr {α:Type} [Inhabited α] {K:Kind α} {T:TypeId} {w:World} {B:Nat} {a:Option Addr} {n c:Nat} {xs:List α} (h:KOwn K T w B (.slice a n c) xs):KRd K w a xs:=by
 obtain ⟨_,_,e,_,_,hr⟩:=h.rd
 cases e;exact hr
def joinF (p:List Int) (a b:Int):List Int:=p.map fun x=>if x=max (nth p a.toNat) (nth p b.toNat) then min (nth p a.toNat) (nth p b.toNat) else x
def ownF (n:Nat):List Int:=List.map (fun k:Nat=>(k:Int)) (List.range n)
def partsOf (n:Nat) (E:List Lg):List Int:=E.foldl (fun p g=>joinF p g.frm g.to) (ownF n)
theorem zad0 (n:Nat) (E:List Lg) (g:Lg):partsOf n (E ++ [g])=joinF (partsOf n E) g.frm g.to:=by simp [partsOf]
theorem zamn (p:List Int) (a b:Int):(joinF p a b).length=p.length:=by simp [joinF]
theorem zacu (n:Nat):(ownF n).length=n:=by simp [ownF]
theorem zao4 {n k:Nat} (h:k<n):nth (ownF n) k=(k:Int):=by
 rw [zacz (by rw [zacu];exact h)];simp [ownF]
theorem zauo (p:List Int) (a b:Int) {k:Nat} (h:k<p.length):nth (joinF p a b) k=if nth p k=max (nth p a.toNat) (nth p b.toNat) then min (nth p a.toNat) (nth p b.toNat) else nth p k:=by
 unfold joinF;rw [zab5 h]
theorem zabr (n:Nat) (E:List Lg):(partsOf n E).length=n:=by
 have:∀ (E:List Lg) (p:List Int),(E.foldl (fun p g=>joinF p g.frm g.to) p).length=p.length:=by
  intro E
  induction E with
  | nil=>intro p;rfl
  | cons g E ih=>intro p;rw [List.foldl_cons,ih,zamn]
 rw [partsOf,this,zacu]
def EdgeIn (n:Nat) (g:Lg):Prop:=(0≤g.frm∧g.frm<n)∧(0≤g.to∧g.to<n)
theorem zads {n:Int} {g:Lg} (h:legOk n g=true):EdgeIn n.toNat g:=by
 simp only [legOk,isIdx,isIn,Bool.and_eq_true,decide_eq_true_eq,Bool.not_eq_true',Bool.or_eq_false_iff,decide_eq_false_iff_not] at h;unfold EdgeIn
 omega
def Link (E:List Lg) (a b:Int):Prop:=∃ g ∈ E,(g.frm=a∧g.to=b)∨(g.to=a∧g.frm=b)
inductive Reach (E:List Lg):Int→Int→Prop
 | here (a:Int):Reach E a a
 | go {a b c:Int}:Link E a b→Reach E b c→Reach E a c
theorem Link.symm {E:List Lg} {a b:Int} (h:Link E a b):Link E b a:=by
 obtain ⟨g,hg,h|h⟩:=h
 · exact ⟨g,hg,.inr ⟨h.2,h.1⟩⟩
 · exact ⟨g,hg,.inl ⟨h.2,h.1⟩⟩
theorem Reach.trans {E:List Lg} {a b c:Int} (h:Reach E a b) (k:Reach E b c):Reach E a c:=by
 induction h with
 | here=>exact k
 | go l _ ih=>exact .go l (ih k)
theorem Reach.link {E:List Lg} {a b:Int} (h:Link E a b):Reach E a b:=.go h (.here b)
theorem Reach.symm {E:List Lg} {a b:Int} (h:Reach E a b):Reach E b a:=by
 induction h with
 | here=>exact .here _
 | go l _ ih=>exact ih.trans (.link l.symm)
theorem Reach.map {E F:List Lg} (hl:∀ a b,Link E a b→Reach F a b) {a b:Int} (h:Reach E a b):Reach F a b:=by
 induction h with
 | here=>exact .here _
 | go l _ ih=>exact (hl _ _ l).trans ih
theorem Link.mono {E F:List Lg} (hs:∀ g ∈ E,g ∈ F) {a b:Int} (h:Link E a b):Link F a b:=by
 obtain ⟨g,hg,h⟩:=h
 exact ⟨g,hs g hg,h⟩
structure Parted (n:Nat) (E:List Lg) (p:List Int):Prop where
 len:p.length=n
 lo:∀ k,k<n→0≤nth p k∧nth p k<n
 same:∀ g ∈ E,nth p g.frm.toNat=nth p g.to.toNat
 reach:∀ k,k<n→Reach E (k:Int) (nth p k)
theorem Parted.own (n:Nat):Parted n [] (ownF n) :=
 ⟨zacu n,fun k h=>(by rw [zao4 h];omega),fun g hg=>(by cases hg),fun k h=>(by rw [zao4 h];exact .here _)⟩
theorem Parted.join {n:Nat} {E:List Lg} {p:List Int} (h:Parted n E p) {g:Lg} (hE:∀ x ∈ E,EdgeIn n x) (hg:EdgeIn n g):Parted n (E ++ [g]) (joinF p g.frm g.to):=by
 obtain ⟨⟨a0,a1⟩,b0,b1⟩:=hg;have ha:g.frm.toNat<n:=qO;have hb:g.to.toNat<n:=qO;have hla:=h.lo _ ha;have hlb:=h.lo _ hb
 have hj:∀ k,k<n→nth (joinF p g.frm g.to) k=if nth p k=max (nth p g.frm.toNat) (nth p g.to.toNat) then min (nth p g.frm.toNat) (nth p g.to.toNat) else nth p k:=fun k hk=>zauo p _ _ (by rw [h.len];exact hk)
 have up:∀ {a b:Int},Reach E a b→Reach (E ++ [g]) a b:=fun r=>r.map fun a b l=>.link (l.mono fun x hx=>by simp [hx])
 refine ⟨by rw [zamn,h.len],fun k hk=>?_,fun x hx=>?_,fun k hk=>?_⟩
 · have:=h.lo k hk
   rw [hj k hk];split <;> omega
 · rw [List.mem_append,List.mem_singleton] at hx
   rcases hx with hx|rfl
   · obtain ⟨⟨_,_⟩,_,_⟩:=hE x hx
     rw [hj _ qO,hj _ qO,h.same x hx]
   · rw [hj _ ha,hj _ hb]
     split <;> split <;> omega
 · rw [hj k hk]
   have r0:=up (h.reach k hk);have ra:=up (h.reach _ ha);have rb:=up (h.reach _ hb);rw [show ((g.frm.toNat:Nat):Int)=g.frm by omega] at ra;rw [show ((g.to.toNat:Nat):Int)=g.to by omega] at rb;have rg:Reach (E ++ [g]) g.frm g.to:=.link ⟨g,by simp,.inl ⟨rfl,rfl⟩⟩;have rab:Reach (E ++ [g]) (nth p g.frm.toNat) (nth p g.to.toNat):=ra.symm.trans (rg.trans rb)
   split
   · rename_i e
     refine r0.trans ?_;rw [e]
     rcases Int.le_total (nth p g.frm.toNat) (nth p g.to.toNat) with hle|hle
     · rw [Int.max_eq_right hle,Int.min_eq_left hle];exact rab.symm
     · rw [Int.max_eq_left hle,Int.min_eq_right hle];exact rab
   · exact r0
theorem zahr {n:Nat}:∀ (E:List Lg),(∀ g ∈ E,EdgeIn n g)→Parted n E (partsOf n E):=by
 intro E hE
 have:∀ k,k≤E.length→Parted n (E.take k) (partsOf n (E.take k)):=by
  intro k
  induction k with
  | zero=>intro _;exact Parted.own n
  | succ k ih =>
    intro hk;rw [zabc qO,zad0]
    exact (ih qO).join (fun x hx=>hE x (List.mem_of_mem_take hx)) (hE _ (zaaf qO))
 have h:=this E.length (Nat.le_refl _)
 rwa [List.take_length] at h
def Rtd (E:List Lg) (r:Int) (par:Int→Int) (dep:Int→Nat) (D:Nat):Prop :=
 par r = -1∧dep r=0∧(∀ x,dep x≤D)∧∀ g ∈ E,(par g.frm=g.to∧dep g.frm=dep g.to+1)∨(par g.to=g.frm∧dep g.to=dep g.frm+1)
def Forest (E:List Lg) (K:Nat):Prop:=∀ r,∃ par dep D,D≤K∧Rtd E r par dep D
def depB:Nat→Nat
 | 0=>0
 | k+1=>3*depB k+1
theorem Forest.nil:Forest [] 0:=fun _=>⟨fun _=>-1,fun _=>0,0,Nat.le_refl _,rfl,rfl,fun _=>Nat.le_refl _,fun g hg=>(by cases hg)⟩
theorem zaiu {E:List Lg} {K:Nat} (c:Int→Int) (hc:∀ g ∈ E,c g.frm=c g.to) (hE:∀ g ∈ E,0≤g.frm∧0≤g.to) (h:Forest E K) (a b:Int) (hab:c a≠c b) (r:Int) (hr:c r≠c b) :
 ∃ (par:Int→Int) (dep:Int→Nat) (D:Nat),D≤3*K+1∧(par r = -1∧dep r=0∧(∀ x,dep x≤D)∧(∀ g ∈ E,(par g.frm=g.to∧dep g.frm=dep g.to+1)∨(par g.to=g.frm∧dep g.to=dep g.frm+1)))∧par b=a∧dep b=(dep a:Nat)+1:=by
 obtain ⟨p1,d1,D1,h0,h1,h2,h3,h4⟩:=h r;obtain ⟨p2,d2,D2,k0,k1,k2,k3,k4⟩:=h b
 refine ⟨fun x=>if c x=c b then (if x=b then a else p2 x) else p1 x,fun x=>if c x=c b then d2 x+d1 a+1 else d1 x,D2+D1+D1+1,by omega,⟨?_,?_,?_,?_⟩,?_,?_⟩
 · simp only [if_neg hr];exact h1
 · simp only [if_neg hr];exact h2
 · intro x
   have:=h3 x;have:=h3 a;have:=k3 x;simp only
   split <;> omega
 · intro g hg
   have e:=hc g hg;obtain ⟨n1,n2⟩:=hE g hg
   by_cases hb:c g.to=c b
   · have hb':c g.frm=c b:=e.trans hb
     simp only [if_pos hb,if_pos hb']
     rcases k4 g hg with ⟨x1,x2⟩|⟨x1,x2⟩
     · left
       refine ⟨?_,by omega⟩;rw [if_neg]
       · exact x1
       · intro e';rw [e',k1] at x1;omega
     · right
       refine ⟨?_,by omega⟩;rw [if_neg]
       · exact x1
       · intro e';rw [e',k1] at x1;omega
   · have hb':¬ c g.frm=c b:=fun h=>hb (e.symm.trans h)
     simp only [if_neg hb,if_neg hb']
     exact h4 g hg
 · simp
 · simp only [if_pos,if_neg hab,k2];omega
theorem Forest.snoc {E:List Lg} {K:Nat} (h:Forest E K) (c:Int→Int) (hc:∀ g ∈ E,c g.frm=c g.to) (hE:∀ g ∈ E,0≤g.frm∧0≤g.to) {g:Lg} (hg:c g.frm≠c g.to):Forest (E ++ [g]) (3*K+1):=by
 intro r
 by_cases hr:c r=c g.to
 · obtain ⟨par,dep,D,h0,⟨h1,h2,h3,h4⟩,h5,h6⟩:=zaiu c hc hE h g.to g.frm (fun e=>hg e.symm) r (fun e=>hg (e.symm.trans hr))
   refine ⟨par,dep,D,h0,h1,h2,h3,fun x hx=>?_⟩
   rw [List.mem_append,List.mem_singleton] at hx
   rcases hx with hx|rfl
   · exact h4 x hx
   · exact .inl ⟨h5,h6⟩
 · obtain ⟨par,dep,D,h0,⟨h1,h2,h3,h4⟩,h5,h6⟩:=zaiu c hc hE h g.frm g.to hg r hr
   refine ⟨par,dep,D,h0,h1,h2,h3,fun x hx=>?_⟩
   rw [List.mem_append,List.mem_singleton] at hx
   rcases hx with hx|rfl
   · exact h4 x hx
   · exact .inr ⟨h5,h6⟩
def Pot (f:Lg→Int) (E:List Lg) (q:Int→Int):Prop:=∀ g ∈ E,q g.to=q g.frm+f g
theorem zawi {f:Lg→Int} {E:List Lg} {q:Int→Int} (h:Pot f E q) (c:Int→Int) (hc:∀ g ∈ E,c g.frm=c g.to) {g:Lg} (hg:c g.frm≠c g.to) :
 Pot f (E ++ [g]) (fun x=>if c x=c g.to then q x+(q g.frm+f g - q g.to) else q x):=by
 intro x hx;rw [List.mem_append,List.mem_singleton] at hx
 rcases hx with hx|rfl
 · have e:=hc x hx
   have:=h x hx
   by_cases hb:c x.to=c g.to
   · simp only [if_pos hb,if_pos (e.trans hb)];omega
   · simp only [if_neg hb,if_neg (fun h=>hb (e.symm.trans h))];omega
 · simp only [if_pos,if_neg hg];omega
def treeSt (n:Nat) (l:List Lg):Nat→List Int × List Nat
 | 0=>(ownF n,[])
 | k+1=>if nth (treeSt n l k).1 (nth l k).frm.toNat=nth (treeSt n l k).1 (nth l k).to.toNat then treeSt n l k else (joinF (treeSt n l k).1 (nth l k).frm (nth l k).to,(treeSt n l k).2 ++ [k])
def treeF (n:Nat) (l:List Lg):List Nat:=(treeSt n l l.length).2
def legsAt (l:List Lg) (use:List Nat):List Lg:=use.map (nth l)
theorem zacr {n:Nat} {l:List Lg} {k:Nat} (h:nth (treeSt n l k).1 (nth l k).frm.toNat=nth (treeSt n l k).1 (nth l k).to.toNat):treeSt n l (k+1)=treeSt n l k:=by rw [treeSt,if_pos h]
theorem zacs {n:Nat} {l:List Lg} {k:Nat} (h:¬ nth (treeSt n l k).1 (nth l k).frm.toNat=nth (treeSt n l k).1 (nth l k).to.toNat):treeSt n l (k+1)=(joinF (treeSt n l k).1 (nth l k).frm (nth l k).to,(treeSt n l k).2 ++ [k]):=by rw [treeSt,if_neg h]
theorem zacv (n:Nat) (l:List Lg):∀ k,(treeSt n l k).1=partsOf n (legsAt l (treeSt n l k).2)
 | 0=>rfl
 | k+1=>by
   by_cases h:nth (treeSt n l k).1 (nth l k).frm.toNat=nth (treeSt n l k).1 (nth l k).to.toNat
   · rw [zacr h];exact zacv n l k
   · rw [zacs h]
     simp only [legsAt,List.map_append,List.map_cons,List.map_nil];rw [zad0,zacv n l k]
     rfl
theorem zafx (n:Nat) (l:List Lg):∀ k,∀ i ∈ (treeSt n l k).2,i<k
 | 0,i,h=>by cases h
 | k+1,i,h=>by
   by_cases hk:nth (treeSt n l k).1 (nth l k).frm.toNat=nth (treeSt n l k).1 (nth l k).to.toNat
   · rw [zacr hk] at h;have:=zafx n l k i h;omega
   · rw [zacs hk] at h
     simp only [List.mem_append,List.mem_singleton] at h
     rcases h with h|h
     · have:=zafx n l k i h;omega
     · omega
theorem zac6 (n:Nat) (l:List Lg):∀ k,(treeSt n l k).2.length≤k
 | 0=>Nat.le_refl _
 | k+1=>by
   have:=zac6 n l k
   by_cases hk:nth (treeSt n l k).1 (nth l k).frm.toNat=nth (treeSt n l k).1 (nth l k).to.toNat
   · rw [zacr hk];omega
   · rw [zacs hk];simp;omega
def potB:Nat→Nat
 | 0=>0
 | k+1=>3*potB k+99
structure TreeAt (n:Nat) (l:List Lg) (k:Nat):Prop where
 forest:Forest (legsAt l (treeSt n l k).2) (depB k)
 pot:∀ f:Lg→Int,(∀ g ∈ l,-99≤f g∧f g≤99)→∃ q,Pot f (legsAt l (treeSt n l k).2) q∧∀ x,-(potB k:Int)≤q x∧q x≤potB k
 all:∀ i,i<k→Reach (legsAt l (treeSt n l k).2) (nth l i).frm (nth l i).to
theorem zaki {n:Nat} {l:List Lg} (hl:∀ g ∈ l,EdgeIn n g):∀ k,k≤l.length→TreeAt n l k
 | 0,_=>⟨Forest.nil,fun f _=>⟨fun _=>0,fun g hg=>(by cases hg),fun x=>(by simp [potB])⟩,fun i hi=> qO⟩
 | k+1,hk=>by
   have ih:=zaki hl k qO
   have hin:∀ g ∈ legsAt l (treeSt n l k).2,EdgeIn n g:=by
    intro g hg;obtain ⟨i,hi,rfl⟩:=List.mem_map.1 hg
    exact hl _ (zaaf (by have:=zafx n l k i hi;omega))
   have hp:=zahr (n:=n) (legsAt l (treeSt n l k).2) hin;rw [← zacv] at hp;have hg:=hl (nth l k) (zaaf qO);obtain ⟨⟨a0,a1⟩,b0,b1⟩:=hg
   by_cases h:nth (treeSt n l k).1 (nth l k).frm.toNat=nth (treeSt n l k).1 (nth l k).to.toNat
   · rw [show TreeAt n l (k+1)↔TreeAt n l (k+1) from Iff.rfl]
     have e:=zacr h
     refine ⟨by
      rw [e];intro r;obtain ⟨par,dep,D,h0,h1⟩:=ih.forest r
      exact ⟨par,dep,D,by simp only [depB];omega,h1⟩,fun f hf=>?_,fun i hi=>?_⟩
     · obtain ⟨q,h1,h2⟩:=ih.pot f hf
       refine ⟨q,by rw [e];exact h1,fun x=>?_⟩
       have:=h2 x;simp only [potB]
       omega
     · rw [e]
       by_cases hik:i=k
       · subst hik
         have r1:=hp.reach (nth l i).frm.toNat qO;have r2:=hp.reach (nth l i).to.toNat qO;rw [show (((nth l i).frm.toNat:Nat):Int)=(nth l i).frm by omega] at r1;rw [show (((nth l i).to.toNat:Nat):Int)=(nth l i).to by omega,← h] at r2
         exact r1.trans r2.symm
       · exact ih.all i qO
   · have e:=zacs h
     have eL:legsAt l (treeSt n l (k+1)).2=legsAt l (treeSt n l k).2 ++ [nth l k]:=by rw [e];simp [legsAt]
     have hc:∀ g ∈ legsAt l (treeSt n l k).2,(fun x:Int=>nth (treeSt n l k).1 x.toNat) g.frm=(fun x:Int=>nth (treeSt n l k).1 x.toNat) g.to:=fun g hg=>hp.same g hg
     refine ⟨?_,fun f hf=>?_,fun i hi=>?_⟩
     · rw [eL]
       exact ih.forest.snoc (fun x:Int=>nth (treeSt n l k).1 x.toNat) hc (fun g hg=>by obtain ⟨⟨_,_⟩,_,_⟩:=hin g hg;omega) h
     · obtain ⟨q,h1,h2⟩:=ih.pot f hf
       refine ⟨_,by rw [eL];exact zawi h1 (fun x:Int=>nth (treeSt n l k).1 x.toNat) hc h,fun x=>?_⟩
       have:=h2 x;have:=h2 (nth l k).frm;have:=h2 (nth l k).to;have:=hf (nth l k) (zaaf qO);simp only [potB]
       split <;> omega
     · rw [eL]
       by_cases hik:i=k
       · subst hik
         exact .link ⟨nth l i,by simp,.inl ⟨rfl,rfl⟩⟩
       · exact (ih.all i qO).map fun a b lk=>.link (lk.mono fun x hx=>by simp [hx])
structure Stp where
 ix:Nat
 back:Bool
 deriving DecidableEq,Inhabited
def Stp.beg (l:List Lg) (s:Stp):Int:=if s.back then (nth l s.ix).to else (nth l s.ix).frm
def Stp.fin (l:List Lg) (s:Stp):Int:=if s.back then (nth l s.ix).frm else (nth l s.ix).to
def Stp.way (f:Lg→Int) (l:List Lg) (s:Stp):Int:=if s.back then -f (nth l s.ix) else f (nth l s.ix)
inductive Wlk (l:List Lg) (use:List Nat):Int→Int→Int→List Stp→Prop
 | here (but a:Int):Wlk l use but a a []
 | go {but a c:Int} {s:Stp} {st:List Stp}:s.ix ∈ use→s.beg l=a→s.fin l≠but→Wlk l use a (s.fin l) c st→Wlk l use but a c (s :: st)
theorem Wlk.weak {l:List Lg} {use:List Nat} {but a c:Int} {st:List Stp} (h:Wlk l use but a c st) (h0:∀ i ∈ use,0≤(nth l i).frm∧0≤(nth l i).to):Wlk l use (-1) a c st:=by
 cases h with
 | here=>exact .here _ _
 | go h1 h2 h3 h4 =>
   refine .go h1 h2 ?_ h4;have:=h0 _ h1;unfold Stp.fin
   split <;> omega
theorem zao5 {l:List Lg} {use:List Nat} (h0:∀ i ∈ use,0≤(nth l i).frm∧0≤(nth l i).to) {a c:Int} (h:Reach (legsAt l use) a c):∃ st,Wlk l use (-1) a c st:=by
 induction h with
 | here a=>exact ⟨[],.here _ _⟩
 | @go a b c lk _ ih =>
   obtain ⟨st,w⟩:=ih;obtain ⟨g,hg,hd⟩:=lk;obtain ⟨i,hi,rfl⟩:=List.mem_map.1 hg;have hn:=h0 i hi
   obtain ⟨s,hs,hb,hf⟩:∃ s:Stp,s.ix ∈ use∧s.beg l=a∧s.fin l=b:=by
    rcases hd with ⟨h1,h2⟩|⟨h1,h2⟩
    · exact ⟨⟨i,false⟩,hi,h1,h2⟩
    · exact ⟨⟨i,true⟩,hi,h1,h2⟩
   have hbp:0≤s.fin l:=by
    have:=h0 _ hs;unfold Stp.fin
    split <;> omega
   subst hf
   cases w with
   | here=>exact ⟨[s],.go hs hb qO (.here _ _)⟩
   | @go _ _ _ t st h1 h2 h3 h4 =>
     by_cases e:t.fin l=a
     · rw [e] at h4
       exact ⟨st,h4.weak h0⟩
     · exact ⟨s :: t :: st,.go hs hb qO (.go h1 h2 e h4)⟩
def wayOf (f:Lg→Int) (l:List Lg) (st:List Stp):Int:=(st.map (Stp.way f l)).sum
theorem Wlk.sum {f:Lg→Int} {l:List Lg} {use:List Nat} {q:Int→Int} (hq:Pot f (legsAt l use) q) {but a c:Int} {st:List Stp} (h:Wlk l use but a c st):wayOf f l st=q c - q a:=by
 induction h with
 | here=>simp [wayOf]
 | @go but a c s st h1 h2 h3 h4 ih =>
   have:=hq (nth l s.ix) (List.mem_map.2 ⟨_,h1,rfl⟩);subst h2;unfold wayOf at ih ⊢;rw [List.map_cons,List.sum_cons,ih]
   cases hb:s.back <;> simp only [Stp.way,Stp.beg,Stp.fin,hb,if_true,if_false,Bool.false_eq_true] <;> omega
def mu (par:Int→Int) (dep:Int→Nat) (D:Nat) (frm but:Int):Nat:=if par frm=but∧0≤but then D - dep frm else D+dep frm+1
theorem zasa {E:List Lg} {r:Int} {par:Int→Int} {dep:Int→Nat} {D:Nat} (h:Rtd E r par dep D) {a b but:Int} (hl:Link E a b) (ha:0≤a) (hb:b≠but):mu par dep D b a<mu par dep D a but:=by
 obtain ⟨_,_,hD,hE⟩:=h;obtain ⟨g,hg,hd⟩:=hl;have hab:=hE g hg;have da:=hD a;have db:=hD b
 have key:(par a=b∧dep a=dep b+1)∨(par b=a∧dep b=dep a+1):=by
  rcases hd with ⟨rfl,rfl⟩|⟨rfl,rfl⟩
  · exact hab
  · exact hab.symm
 unfold mu
 rcases key with ⟨k1,k2⟩|⟨k1,k2⟩
 · have:¬ (par a=but∧0≤but):=fun e=>hb (k1.symm.trans e.1)
   rw [if_neg this]
   split <;> omega
 · rw [if_pos ⟨k1,ha⟩]
   split <;> omega
end Go.Proofs.YthfoloefkfadlaaGreatDoor
