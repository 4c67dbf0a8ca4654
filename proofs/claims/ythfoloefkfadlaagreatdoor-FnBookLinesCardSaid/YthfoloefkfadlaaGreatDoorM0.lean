/- Matrices in memory: rows of numbers, to be read, and the call's own. -/
import Derived.Test.YthfoloefkfadlaaGreatDoorF1
import Derived.Test.YthfoloefkfadlaaGreatDoorP1
import Derived.Deep.OwnRows
set_option linter.unusedSimpArgs false
set_option linter.unusedVariables false
namespace Go.Proofs.YthfoloefkfadlaaGreatDoor
open Go Go.RowKit Go.Sort
structure Hd where
 a:Option Addr
 n:Nat
 c:Nat
 deriving Inhabited
def Hd.val (h:Hd):Value:=.slice h.a h.n h.c
def hdK:Kind Hd where
 sz:=1
 cells h:=[h.val]
 len _:=rfl
 one _ u hu:=by simp only [List.mem_cons,List.not_mem_nil,or_false] at hu;subst hu;rfl
theorem zaoo:(Tryz.prog.info? 150).map (fun i=>(i.zero,i.size,i.bytes))=some (some (.slice none 0 0),1,24):=by kernel_rfl
theorem hdI:KInfo Tryz.prog hdK 150 157:=by
 obtain ⟨i0,hi,hz0,hz1,hz2⟩:=info_parts zaoo
 exact ⟨Tryz.underlying157,⟨i0,_,24,hi,hz0,hz1,hz2,rfl,by omega⟩,by decide⟩
abbrev OwnH (w:World) (B:Nat) (v:Value) (hs:List Hd):Prop:=KOwn hdK 150 w B v hs
theorem zat4 (hs:List Hd):hdK.flat hs=hs.map Hd.val:=by
 induction hs with
 | nil=>rfl
 | cons x l ih=>rw [zaa4,ih];rfl
theorem zaop (w:World) (h:Hd) (T:TypeId):KRd hdK (w.alloc (.cells #[h.val] T)) (some ⟨w.heap.size,0,none⟩) [h]:=by
 refine KRd.mk qP fun j u hu=>?_
 rw [Nat.zero_add]
 exact (At.new (X:=w.heap.size) w _ T rfl rfl).c j u (by rw [zaa4,zabi,List.append_nil] at hu;exact hu)
theorem zacm (n:Nat) (h:n≤2097152) (w:World):(Instr.makeSlice 150 (.int .i64 (n:Int)) (.int .i64 (n:Int))).run Tryz.prog w =
 .ok (.slice (some ⟨w.heap.size,0,none⟩) n n) (w.alloc (.cells (madeCells #[.int .i64 0] n) 3)) :=
 run_make_row' 150 3 (.int .i64 0) 8 Tryz.underlying150 zaji rfl .i64 .i64 n qO qO w
theorem zaj5 (n:Nat) (h:n≤2097152) (w:World):(Instr.makeSlice 157 (.int .i64 (n:Int)) (.int .i64 (n:Int))).run Tryz.prog w =
 .ok (.slice (some ⟨w.heap.size,0,none⟩) n n) (w.alloc (.cells (madeCells #[.slice none 0 0] n) 150)) :=
 run_make_row' 157 150 (.slice none 0 0) 24 Tryz.underlying157 zaoo rfl .i64 .i64 n qO qO w
theorem KOwn.made {α:Type} [Inhabited α] {K:Kind α} {T:TypeId} (z:Value) (x:α) (h1:K.sz=1) (hx:K.cells x=[z]) (w:World) (B n:Nat) (hB:B≤w.heap.size) (hn:n≤2097152) :
 KOwn K T (w.alloc (.cells (madeCells #[z] n) T)) B (.slice (some ⟨w.heap.size,0,none⟩) n n) (List.replicate n x):=by
 have h:=KOwn.ofRow (K:=K) (T:=T) (B:=B) (g:=w.heap.size) (cap:=n) (xs:=List.replicate n x) (f:=fun _=>z) (w:=w.alloc (.cells (madeCells #[z] n) T)) hB qP (by unfold maxLen;omega)
  (by rw [h1,Nat.mul_one];exact World.rowIs_made w _ n _) (fun j u hu=>by
   obtain ⟨k,r,hk,_,_,hu⟩:=zag3 _ hu
   have e:nth (List.replicate n x) k=x:=by
    have:k<n:=by simpa using hk
    simp [nth,this]
   rw [e,hx] at hu
   match r,hu with
   | 0,hu=>simpa using hu
   | _+1,hu=>simp at hu)
 rwa [List.length_replicate] at h
theorem OwnZ.made (w:World) (B n:Nat) (hB:B≤w.heap.size) (hn:n≤2097152):OwnZ (w.alloc (.cells (madeCells #[.int .i64 0] n) 3)) B (.slice (some ⟨w.heap.size,0,none⟩) n n) (List.replicate n 0) :=
 KOwn.made (.int .i64 0) (0:Int) rfl rfl w B n hB hn
theorem OwnH.made (w:World) (B n:Nat) (hB:B≤w.heap.size) (hn:n≤2097152):OwnH (w.alloc (.cells (madeCells #[.slice none 0 0] n) 150)) B (.slice (some ⟨w.heap.size,0,none⟩) n n) (List.replicate n ⟨none,0,0⟩) :=
 KOwn.made (.slice none 0 0) (⟨none,0,0⟩:Hd) rfl rfl w B n hB hn
theorem OwnH.put {w:World} {B g n c:Nat} {xs:List Hd} (h:OwnH w B (.slice (some ⟨g,0,none⟩) n c) xs) {k:Nat} (hk:k<xs.length) (x:Hd) :
 OwnH (w.setCell ⟨g,k,none⟩ x.val) B (.slice (some ⟨g,0,none⟩) n c) (xs.set k x):=by
 obtain ⟨g',cap,f,e,hB,hn,hc,hr,hf⟩:=KOwn.row h qO
 cases e
 have hr2:(w.setCell ⟨g,k,none⟩ x.val).rowIs g 150 (c*hdK.sz) (fun j=>if j=k then x.val else f j):=hr.set k x.val
 have hlen:(xs.set k x).length=xs.length:=qP
 have:=KOwn.ofRow (K:=hdK) (T:=150) (B:=B) (xs:=xs.set k x) hB (by rw [hlen];exact hn) hc hr2 (fun j u hu=>by
  rw [zat4,List.getElem?_map,List.getElem?_set] at hu
  by_cases e:k=j
  · subst e
    rw [if_pos rfl,if_pos hk] at hu
    show (if k=k then x.val else f k)=u
    rw [if_pos rfl]
    simpa using hu
  · rw [if_neg e] at hu
    have e2:¬ j=k:=fun h=>e h.symm
    show (if j=k then x.val else f j)=u
    rw [if_neg e2]
    exact hf j u (by rw [zat4,List.getElem?_map];exact hu))
 rwa [hlen] at this
theorem OwnH.form1 {w:World} {B:Nat} {a:Option Addr} {n c:Nat} {xs:List Hd} (h:OwnH w B (.slice a n c) xs) (h0:0<xs.length) :
 ∃ g,a=some ⟨g,0,none⟩∧n=xs.length∧B≤g∧g<w.heap.size∧(∀ j,j<xs.length→w.cell? ⟨g,j,none⟩=some (nth xs j).val)∧∀ j,w.frozen? ⟨g,j,none⟩=false:=by
 have hk:=KOwn.krow h h0;obtain ⟨g,cap,e,hB,hn,hc,hr⟩:=hk
 cases e
 refine ⟨g,rfl,rfl,hB,hr.lt,fun j hj=>?_,fun j=>hr.free j⟩
 have:=hr.at (k:=j) (x:=nth xs j) qO (by simp [hj]) (r:=0) (u:=(nth xs j).val) rfl
 simpa [hdK] using this
def Mat (w:World) (a:Option Addr) (M:List (List Int)):Prop :=
 ∃ hs:List Hd,KRd hdK w a hs∧hs.length=M.length∧∀ k,k<M.length→(nth hs k).n=(nth M k).length∧(nth M k).length≤(nth hs k).c∧(nth hs k).c≤9223372036854775807∧Zs w (nth hs k).a (nth M k)
theorem Mat.below {w w':World} {a:Option Addr} {M:List (List Int)} (h:Mat w a M) (hb:Below w.heap.size w w'):Mat w' a M:=by
 obtain ⟨hs,h1,h2,h3⟩:=h
 exact ⟨hs,h1.below hb,h2,fun k hk=>⟨(h3 k hk).1,(h3 k hk).2.1,(h3 k hk).2.2.1,(h3 k hk).2.2.2.below hb⟩⟩
theorem Mat.at {w:World} {a:Option Addr} {M:List (List Int)} (h:Mat w a M) {k:Nat} (hk:k<M.length) :
 ∃ b off ra rc,a=some ⟨b,off,none⟩∧b<w.heap.size∧w.cell? ⟨b,off+k,none⟩=some (.slice ra (nth M k).length rc)∧(nth M k).length≤rc∧rc≤9223372036854775807∧Zs w ra (nth M k):=by
 obtain ⟨hs,h1,h2,h3⟩:=h;obtain ⟨b,off,e,hb,hc⟩:=Rd.at h1 (k:=k) qO;obtain ⟨g1,g2,g3,g4⟩:=h3 k hk
 refine ⟨b,off,_,_,e,hb,?_,g2,g3,g4⟩
 have:=hc k qO 0 _ rfl;rw [← g1]
 have e:w.cell? ⟨b,off+k,none⟩=some (nth hs k).val:=by simpa [hdK,Kind.lay] using this
 exact e
structure MatO (w:World) (B:Nat) (v:Value) (hs:List Hd) (M:List (List Int)):Prop where
 own:OwnH w B v hs
 len:hs.length=M.length
 row:∀ k,k<M.length→OwnZ w B (nth hs k).val (nth M k)
 apart:∀ k,k<M.length→∀ b,(nth hs k).val.ownBlock=some b→v.ownBlock≠some b
 inj:∀ j k,j<M.length→k<M.length→∀ b,(nth hs j).val.ownBlock=some b→(nth hs k).val.ownBlock=some b→j=k
section
variable {w w':World} {B:Nat} {v:Value} {hs:List Hd} {M:List (List Int)}
theorem MatO.below (h:MatO w B v hs M) (hb:Below w.heap.size w w'):MatO w' B v hs M:=⟨h.own.below hb,h.len,fun k hk=>(h.row k hk).below hb,h.apart,h.inj⟩
theorem MatO.mono (h:MatO w B v hs M) {B':Nat} (hB:B'≤B):MatO w B' v hs M:=⟨h.own.mono hB,h.len,fun k hk=>(h.row k hk).mono hB,h.apart,h.inj⟩
theorem MatO.sl (h:MatO w B v hs M):∃ a c,v=.slice a M.length c:=by
 obtain ⟨a,c,e⟩:=h.own.sl
 exact ⟨a,c,by rw [e,h.len]⟩
theorem MatO.rd {a:Option Addr} {n c:Nat} (h:MatO w B (.slice a n c) hs M):Mat w a M:=by
 obtain ⟨a',c',e,h1,h2,h3⟩:=h.own.rd
 cases e
 refine ⟨hs,h3,h.len,fun k hk=>?_⟩
 obtain ⟨ra,rc,e,g1,g2,g3⟩:=(h.row k hk).rd;unfold Hd.val at e
 injection e with e1 e2 e3
 rw [e1,e2,e3]
 exact ⟨rfl,g1,g2,g3⟩
theorem MatO.lit (w:World) (B:Nat) (hB:B≤w.heap.size):MatO (w.alloc (.cells #[] 150)) B (.slice (some ⟨w.heap.size,0,none⟩) 0 0) [] []:=⟨KOwn.lit w B hB,rfl,fun k hk=>by simp at hk,fun k hk=>by simp at hk,fun j k hk=>by simp at hk⟩
theorem MatO.more (h:MatO w B v hs M) {v':Value} {x:Hd} {r:List Int} (ho:OwnH w' B v' (hs ++ [x])) (hg:w.grownBy w' v.ownBlock) (hr:OwnZ w B x.val r) (hat:v'.ownBlock=v.ownBlock∨v'.ownBlock=some w.heap.size)
 (hv:∀ b,x.val.ownBlock=some b→v.ownBlock≠some b∧∀ k,k<M.length→(nth hs k).val.ownBlock≠some b):MatO w' B v' (hs ++ [x]) (M ++ [r]):=by
 have hl:=h.len
 have keep:∀ {u:Value} {l:List Int},OwnZ w B u l→(∀ b,u.ownBlock=some b→v.ownBlock≠some b)→OwnZ w' B u l:=fun ho hne=>by
  refine ⟨ho.1,?_⟩
  rcases ho.2 with hn|⟨g,cap,cur,e,hB,hh,q⟩
  · exact .inl hn
  · subst e
    exact .inr ⟨g,cap,cur,rfl,hB,(hg.block g (Array.getElem?_eq_some_iff.1 hh).1 (fun e=>hne g rfl e.symm)).trans hh,q⟩
 have new:∀ {u:Value} {l:List Int},OwnZ w B u l→∀ b,u.ownBlock=some b→v.ownBlock≠some b→v'.ownBlock≠some b:=fun ho b hb hne e=>by
  rcases hat with h1|h1
  · exact hne (h1▸e)
  · rw [h1] at e
    have:=(ho.lt hb).2
    cases e;omega
 refine ⟨ho,by simp [hl],fun k hk=>?_,fun k hk b hb=>?_,fun j k hj hk b h1 h2=>?_⟩
 · simp only [List.length_append,List.length_cons,List.length_nil] at hk
   by_cases e:k<M.length
   · rw [zaam qO,zaam e]
     exact keep (h.row k e) (h.apart k e)
   · obtain rfl:k=M.length:=by omega
     rw [zaby,← hl,zaby]
     exact keep hr fun b hb=>(hv b hb).1
 · simp only [List.length_append,List.length_cons,List.length_nil] at hk
   by_cases e:k<M.length
   · rw [zaam qO] at hb
     exact new (h.row k e) b hb (h.apart k e b hb)
   · obtain rfl:k=M.length:=by omega
     rw [← hl,zaby] at hb
     exact new hr b hb (hv b hb).1
 · simp only [List.length_append,List.length_cons,List.length_nil] at hj hk
   by_cases ej:j<M.length <;> by_cases ek:k<M.length
   · rw [zaam qO] at h1 h2
     exact h.inj j k ej ek b h1 h2
   · obtain rfl:k=M.length:=by omega
     rw [zaam qO] at h1;rw [← hl,zaby] at h2
     exact absurd h1 ((hv b h2).2 j ej)
   · obtain rfl:j=M.length:=by omega
     rw [zaam qO] at h2;rw [← hl,zaby] at h1
     exact absurd h2 ((hv b h1).2 k ek)
   · omega
theorem MatO.at (h:MatO w B v hs M) {k:Nat} (hk:k<M.length):∃ p cp,v=.slice (some ⟨p,0,none⟩) M.length cp∧B≤p∧p<w.heap.size∧w.cell? ⟨p,k,none⟩=some (nth hs k).val∧w.frozen? ⟨p,k,none⟩=false:=by
 obtain ⟨a,c,e⟩:=h.own.sl;have ho:=h.own;rw [e] at ho;obtain ⟨g,e1,e2,hB,hg,hc,hf⟩:=ho.form1 (by rw [h.len];omega);subst e1
 exact ⟨g,c,by rw [e,h.len],hB,hg,hc k (by rw [h.len];exact hk),hf k⟩
theorem MatO.cell (h:MatO w B v hs M) {k j:Nat} (hk:k<M.length) (hj:j<(nth M k).length):∃ g c,nth hs k=⟨some ⟨g,0,none⟩,(nth M k).length,c⟩∧B≤g∧g<w.heap.size∧(nth M k).length≤c∧w.cell? ⟨g,j,none⟩=some (.int .i64 (nth (nth M k) j))∧w.frozen? ⟨g,j,none⟩=false:=by
 have ho:=h.row k hk;have hcap:=ho.rd;unfold Hd.val at ho hcap;obtain ⟨g,e1,e2,hB,hg,hc,hf⟩:=ho.form1 qO;obtain ⟨a',c',e',q1,_,_⟩:=hcap
 injection e' with e3 e4 e5
 refine ⟨g,(nth hs k).c,?_,hB,hg,by omega,hc j hj,hf j⟩
 cases hh:nth hs k with
 | mk a n c=>rw [hh] at e1 e2;simp only at e1 e2;rw [e1,e2]
theorem MatO.put (h:MatO w B v hs M) {k j g n c:Nat} (hk:k<M.length) (hj:j<(nth M k).length) (he:nth hs k=⟨some ⟨g,0,none⟩,n,c⟩) (x:Int) :
 MatO (w.setCell ⟨g,j,none⟩ (.int .i64 x)) B v hs (M.set k ((nth M k).set j x)):=by
 have hlen:(M.set k ((nth M k).set j x)).length=M.length:=qP
 have hgk:(nth hs k).val.ownBlock=some g:=by rw [he];rfl
 refine ⟨h.own.setOther (p:=⟨g,j,none⟩) (fun e=>h.apart k hk g hgk e) _,by rw [hlen];exact h.len,fun i hi=>?_,fun i hi=>h.apart i (by rw [hlen] at hi;exact hi),fun i q hi hq=>h.inj i q (by rw [hlen] at hi;exact hi) (by rw [hlen] at hq;exact hq)⟩
 rw [hlen] at hi;rw [zaav hi]
 by_cases e:k=i
 · subst e
   rw [if_pos rfl];have ho:=h.row k hk;rw [he] at ho ⊢
   exact OwnZ.put ho hj x
 · rw [if_neg e]
   exact (h.row i hi).setOther (p:=⟨g,j,none⟩) (fun e2=>e (h.inj k i hk hi g hgk e2)) _
theorem MatO.putRow (h:MatO w B v hs M) {k p:Nat} {cp:Nat} (hk:k<M.length) (hv:v=.slice (some ⟨p,0,none⟩) M.length cp) {x:Hd} {r:List Int} (hr:OwnZ w B x.val r)
 (hx:∀ b,x.val.ownBlock=some b→v.ownBlock≠some b∧∀ i,i<M.length→i≠k→(nth hs i).val.ownBlock≠some b):MatO (w.setCell ⟨p,k,none⟩ x.val) B v (hs.set k x) (M.set k r):=by
 have hl:=h.len
 have hvp:v.ownBlock=some p:=by rw [hv];rfl
 have ho:=h.own;rw [hv,← hl] at ho
 refine ⟨by rw [hv,← hl];exact ho.put qO x,by simp [hl],fun i hi=>?_,fun i hi b hb=>?_,fun i j hi hj b h1 h2=>?_⟩
 · rw [List.length_set] at hi
   rw [zaav qO,zaav hi]
   by_cases e:k=i
   · rw [if_pos e,if_pos e]
     exact hr.setOther (p:=⟨p,k,none⟩) (fun e2=>(hx p e2).1 hvp) _
   · rw [if_neg e,if_neg e]
     exact (h.row i hi).setOther (p:=⟨p,k,none⟩) (fun e2=>h.apart i hi p e2 hvp) _
 · rw [List.length_set] at hi
   rw [zaav qO] at hb
   by_cases e:k=i
   · rw [if_pos e] at hb;exact (hx b hb).1
   · rw [if_neg e] at hb;exact h.apart i hi b hb
 · rw [List.length_set] at hi hj
   rw [zaav qO] at h1 h2
   by_cases ei:k=i <;> by_cases ej:k=j
   · omega
   · rw [if_pos ei] at h1;rw [if_neg ej] at h2
     exact absurd h2 ((hx b h1).2 j hj (fun e=>ej e.symm))
   · rw [if_neg ei] at h1;rw [if_pos ej] at h2
     exact absurd h1 ((hx b h2).2 i hi (fun e=>ei e.symm))
   · rw [if_neg ei] at h1;rw [if_neg ej] at h2
     exact h.inj i j hi hj b h1 h2
end
theorem zanm {z:Array Value} {n i:Nat} (h:i<n):(madeCells z n)[i]?=some (z[i % z.size]!):=by simp [madeCells,h]
theorem KRow.made {α:Type} [Inhabited α] {K:Kind α} {T:TypeId} (z:Array Value) (x:α) (hz:z.toList=K.cells x) (w:World) (n:Nat) :
 KRow K T (w.alloc (.cells (madeCells z (n*K.sz)) T)) w.heap.size n (fun k=>if k<n then some x else none):=by
 have hzs:z.size=K.sz:=by rw [← K.len x,← hz];rfl
 refine KRow.new w _ (size_madeCells _ _) fun k y hk hy r u hu=>?_
 rw [if_pos hk] at hy
 cases hy
 have hr:r<K.sz:=by rw [← K.len x];exact (List.getElem?_eq_some_iff.1 hu).1
 rw [zanm (zah1 hk hr),hzs,Nat.mul_comm,Nat.mul_add_mod,Nat.mod_eq_of_lt hr];rw [← hz,Array.getElem?_toList] at hu;obtain ⟨h1,h2⟩:=Array.getElem?_eq_some_iff.1 hu;rw [getElem!_pos z r h1,h2]
theorem KOwn.set {α:Type} [Inhabited α] {K:Kind α} {T:TypeId} {w:World} {B g n c:Nat} {xs:List α} (h:KOwn K T w B (.slice (some ⟨g,0,none⟩) n c) xs) {k:Nat} (hk:k<xs.length) (x:α) :
 KOwn K T (w.setCells g (k*K.sz) (K.cells x)) B (.slice (some ⟨g,0,none⟩) n c) (xs.set k x):=by
 obtain ⟨g',cap,e,hB,hn,hm,hr⟩:=KOwn.krow h qO
 cases e
 have h2:=hr.put k [x];rw [zaa4,zabi,List.append_nil] at h2
 have h3:=h2.own hB (xs.set k x) (by simpa using hn) hm fun j hj=>by
  rw [List.length_set] at hj;rw [zaav hj]
  by_cases e:k=j
  · subst e
    rw [if_pos ⟨Nat.le_refl _,by simp⟩,if_pos rfl]
    simp [nth]
  · rw [if_neg e,if_neg (by simp;omega),if_pos hj]
 rwa [List.length_set] at h3
def boolK:Kind Bool where
 sz:=1
 cells b:=[.bool b]
 len _:=rfl
 one _ u hu:=by simp only [List.mem_cons,List.not_mem_nil,or_false] at hu;subst hu;rfl
abbrev OwnB (w:World) (B:Nat) (v:Value) (l:List Bool):Prop:=KOwn boolK 4 w B v l
def wyK:Kind Wy where
 sz:=3
 cells y:=[.int .i64 y.e,.int .i64 y.n,.int .i64 y.u]
 len _:=rfl
 one _ u hu:=by simp only [List.mem_cons,List.not_mem_nil,or_false] at hu;rcases hu with rfl|rfl|rfl <;> rfl
abbrev Wys:=KRd wyK
abbrev OwnW (w:World) (B:Nat) (v:Value) (l:List Wy):Prop:=KOwn wyK 109 w B v l
theorem zav9:(Tryz.prog.info? 4).map (fun i=>(i.zero,i.size,i.bytes))=some (some (.bool false),1,1):=by kernel_rfl
theorem zaue:(Tryz.prog.info? 109).map (fun i=>(i.zero,i.size,i.bytes))=some (some (.agg #[.int .i64 0,.int .i64 0,.int .i64 0]),3,24):=by kernel_rfl
theorem wyI:KInfo Tryz.prog wyK 109 127:=by
 obtain ⟨i0,hi,hz0,hz1,hz2⟩:=info_parts zaue
 exact ⟨Tryz.underlying127,⟨i0,_,24,hi,hz0,hz1,hz2,rfl,by omega⟩,by decide⟩
theorem zaj8 (w:World) (y:Wy) (T:TypeId):Wys (w.alloc (.cells #[.int .i64 y.e,.int .i64 y.n,.int .i64 y.u] T)) (some ⟨w.heap.size,0,none⟩) [y]:=by
 refine KRd.mk qP fun j u hu=>?_
 rw [Nat.zero_add]
 exact (At.new (X:=w.heap.size) w _ T rfl rfl).c j u (by rw [zaa4,zabi,List.append_nil] at hu;exact hu)
theorem zaq5 (n:Nat) (h:n≤1048576) (w:World):(Instr.makeSlice 225 (.int .i64 (n:Int)) (.int .i64 (n:Int))).run Tryz.prog w =
 .ok (.slice (some ⟨w.heap.size,0,none⟩) n n) (w.alloc (.cells (madeCells #[.bool false] n) 4)) :=
 run_make_row' 225 4 (.bool false) 1 Tryz.underlying225 zav9 rfl .i64 .i64 n qO qO w
theorem zaq6 (n:Nat) (h:n≤1048576) (w:World):(Instr.makeSlice 165 (.int .i64 (n:Int)) (.int .i64 (n:Int))).run Tryz.prog w =
 .ok (.slice (some ⟨w.heap.size,0,none⟩) n n) (w.alloc (.cells (madeCells #[.int .i64 0,.bool false] (n*2)) 193)):=by
 obtain ⟨i0,hi,hz0,hz1,hz2⟩:=info_parts zasc;have h:=run_make (P:=Tryz.prog) w 165 193 i0 _ Tryz.underlying165 hi hz0 .i64 .i64 n n qO (Int.le_refl _) (by rw [hz2];omega) qO
 simpa [hz1,Value.cells] using h
theorem zaj9 (n:Nat) (h:n≤1048576) (w:World):(Instr.makeSlice 127 (.int .i64 (n:Int)) (.int .i64 (n:Int))).run Tryz.prog w =
 .ok (.slice (some ⟨w.heap.size,0,none⟩) n n) (w.alloc (.cells (madeCells #[.int .i64 0,.int .i64 0,.int .i64 0] (n*3)) 109)):=by
 obtain ⟨i0,hi,hz0,hz1,hz2⟩:=info_parts zaue;have h:=run_make (P:=Tryz.prog) w 127 109 i0 _ Tryz.underlying127 hi hz0 .i64 .i64 n n qO (Int.le_refl _) (by rw [hz2];omega) qO
 simpa [hz1,Value.cells] using h
theorem KOwn.ofMade {α:Type} [Inhabited α] {K:Kind α} {T:TypeId} (z:Array Value) (x:α) (hz:z.toList=K.cells x) (w:World) (B n:Nat) (hB:B≤w.heap.size) (hn:n≤1048576) :
 KOwn K T (w.alloc (.cells (madeCells z (n*K.sz)) T)) B (.slice (some ⟨w.heap.size,0,none⟩) n n) (List.replicate n x):=by
 have h:=(KRow.made (T:=T) z x hz w n).own (B:=B) hB (List.replicate n x) qP (by unfold maxLen;omega) fun k hk=>by
  rw [List.length_replicate] at hk;rw [if_pos hk]
  simp [nth,hk]
 rwa [List.length_replicate] at h
theorem OwnB.made (w:World) (B n:Nat) (hB:B≤w.heap.size) (hn:n≤1048576):OwnB (w.alloc (.cells (madeCells #[.bool false] n) 4)) B (.slice (some ⟨w.heap.size,0,none⟩) n n) (List.replicate n false):=by
 have:=KOwn.ofMade (K:=boolK) (T:=4) #[.bool false] false rfl w B n hB hn
 rwa [show n*boolK.sz=n from Nat.mul_one n] at this
theorem OwnS.made (w:World) (B n:Nat) (hB:B≤w.heap.size) (hn:n≤1048576):OwnS (w.alloc (.cells (madeCells #[.int .i64 0,.bool false] (n*2)) 193)) B (.slice (some ⟨w.heap.size,0,none⟩) n n) (List.replicate n ⟨0,false⟩) :=
 KOwn.ofMade (K:=stpK) (T:=193) #[.int .i64 0,.bool false] ⟨0,false⟩ rfl w B n hB hn
theorem OwnW.made (w:World) (B n:Nat) (hB:B≤w.heap.size) (hn:n≤1048576):OwnW (w.alloc (.cells (madeCells #[.int .i64 0,.int .i64 0,.int .i64 0] (n*3)) 109)) B (.slice (some ⟨w.heap.size,0,none⟩) n n) (List.replicate n ⟨0,0,0⟩) :=
 KOwn.ofMade (K:=wyK) (T:=109) #[.int .i64 0,.int .i64 0,.int .i64 0] ⟨0,0,0⟩ rfl w B n hB hn
end Go.Proofs.YthfoloefkfadlaaGreatDoor
