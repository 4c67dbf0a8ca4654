/- Walks of reading a book: what lies in memory while it goes on. -/
import Derived.Test.YthfoloefkfadlaaGreatDoorB1
import Derived.Test.YthfoloefkfadlaaGreatDoorT6
import Derived.Test.YthfoloefkfadlaaGreatDoorK3
set_option linter.unusedSimpArgs false
set_option linter.unusedVariables false
namespace Go.Proofs.YthfoloefkfadlaaGreatDoor
open Go Go.RowKit Go.Sort
theorem zax3 (w:World) (x:Dd) (T:TypeId):Dds (w.alloc (.cells #[.int .i64 x.kind,.int .i64 x.index,.int .i64 x.leg.frm,.int .i64 x.leg.to,.int .i64 x.leg.east,.int .i64 x.leg.north,.int .i64 x.leg.up] T)) (some ⟨w.heap.size,0,none⟩) [x]:=by
 refine KRd.mk qP fun j u hu=>?_
 rw [Nat.zero_add]
 exact (At.new (X:=w.heap.size) w _ T rfl rfl).c j u (by rw [zaa4,zabi,List.append_nil] at hu;exact hu)
def RkOut (p:(Bk × Nat) × Bool) (w:World) (e:Ending) (w':World):Prop:=∃ v1 v2 v3,e=.returned (.tuple #[.agg #[.int .i64 p.1.1.first.st,v1,v2,v3],.int .i64 (p.1.2:Int),.bool p.2])∧BkOwn w' w.heap.size v1 v2 v3 p.1.1∧Below w.heap.size w w'
structure BkSt (w:World) (X Z T B:Nat) (st:Int) (av:Option Addr) (cv:Nat) (l:List Lg) (ds:List Dd) (ad:Option Addr) (cd:Nat) (nst:Int) (an:Option Addr) (cn:Nat) (nl:List Lg) (wr:World):Prop where
 x:At wr X [.int .i64 0,.slice none 0 0,.slice none 0 0,.slice none 0 0]
 z:At wr Z [.int .i64 st,.slice av l.length cv,.slice ad ds.length cd,.slice none 0 0]
 t:At wr T [.int .i64 nst,.slice an nl.length cn]
 ol:OwnL wr w.heap.size (.slice av l.length cv) l
 od:OwnD wr B (.slice ad ds.length cd) ds
 on:OwnL wr w.heap.size (.slice an nl.length cn) nl
 lk:∀ k,(Value.slice av l.length cv).ownBlock=some k→k≠X∧k≠Z∧k≠T∧k<B
 nk:∀ k,(Value.slice an nl.length cn).ownBlock=some k→k≠X∧k≠Z∧k≠T∧(Value.slice ad ds.length cd).ownBlock≠some k
 wx:w.heap.size≤X
 xz:X<Z
 zt:Z<T
 tb:T<B
 b:B≤wr.heap.size
 u:Below w.heap.size w wr
section
variable {w wr w2:World} {X Z T B:Nat} {st:Int} {av:Option Addr} {cv:Nat} {l:List Lg} {ds:List Dd} {ad:Option Addr} {cd:Nat} {nst:Int} {an:Option Addr} {cn:Nat} {nl:List Lg}
theorem BkSt.below (h:BkSt w X Z T B st av cv l ds ad cd nst an cn nl wr) (hb:Below wr.heap.size wr w2):BkSt w X Z T B st av cv l ds ad cd nst an cn nl w2 :=
 ⟨h.x.below hb,h.z.below hb,h.t.below hb,h.ol.below hb,h.od.below hb,h.on.below hb,h.lk,h.nk,h.wx,h.xz,h.zt,h.tb,Nat.le_trans h.b hb.size,h.u.trans (hb.mono h.u.size)⟩
theorem BkSt.alloc (h:BkSt w X Z T B st av cv l ds ad cd nst an cn nl wr) (o:Obj):BkSt w X Z T B st av cv l ds ad cd nst an cn nl (wr.alloc o):=h.below ((Below.refl _ _).alloc (Nat.le_refl _) o)
theorem BkSt.put (h:BkSt w X Z T B st av cv l ds ad cd nst an cn nl wr) {B1:Nat} {nst':Int} {an':Option Addr} {cn':Nat} {nl':List Lg} (hB1:B≤B1) (ho:OwnL wr B1 (.slice an' nl'.length cn') nl') (hd:∀ k,(Value.slice ad ds.length cd).ownBlock=some k→k<B1) :
 BkSt w X Z T B st av cv l ds ad cd nst' an' cn' nl' ((wr.setCell ⟨T,0,none⟩ (.int .i64 nst')).setCell ⟨T,1,none⟩ (.slice an' nl'.length cn')):=by
 have h1:=h.xz;have h2:=h.zt;have h3:=h.tb;have h4:=h.wx
 refine ⟨(h.x.setOther (p:=⟨T,0,none⟩) (by show X≠T;omega) _).setOther (p:=⟨T,1,none⟩) (by show X≠T;omega) _,(h.z.setOther (p:=⟨T,0,none⟩) (by show Z≠T;omega) _).setOther (p:=⟨T,1,none⟩) (by show Z≠T;omega) _,h.t.sets2 _ _,?_,(h.od.setCell (p:=⟨T,0,none⟩) h3 _).setCell (p:=⟨T,1,none⟩) h3 _,?_,h.lk,fun k hk=>?_,h.wx,h.xz,h.zt,h.tb,by simpa [World.setCell] using h.b,(h.u.setCell (p:=⟨T,0,none⟩) (by show _≤T;omega) _).setCell (p:=⟨T,1,none⟩) (by show _≤T;omega) _⟩
 · exact (h.ol.setOther (p:=⟨T,0,none⟩) (fun e=>(h.lk _ e).2.2.1 rfl) _).setOther (p:=⟨T,1,none⟩) (fun e=>(h.lk _ e).2.2.1 rfl) _
 · exact ((ho.setCell (p:=⟨T,0,none⟩) (by show T<B1;omega) _).setCell (p:=⟨T,1,none⟩) (by show T<B1;omega) _).mono qO
 · have:=(ho.lt hk).1
   exact ⟨by omega,by omega,by omega,fun e=>by have:=hd k e;omega⟩
theorem BkSt.more (h:BkSt w X Z T B st av cv l ds ad cd nst an cn nl wr) {ds':List Dd} {ad':Option Addr} {cd':Nat} (hb:Below B wr w2) (hg:wr.grownBy w2 (Value.slice ad ds.length cd).ownBlock) (ho:OwnD w2 B (.slice ad' ds'.length cd') ds') (hr:∀ k,(Value.slice ad' ds'.length cd').ownBlock=some k→(Value.slice ad ds.length cd).ownBlock=some k∨wr.heap.size≤k) :
 BkSt w X Z T B st av cv l ds' ad' cd' nst an cn nl (w2.setCell ⟨Z,2,none⟩ (.slice ad' ds'.length cd')):=by
 have h1:=h.xz;have h2:=h.zt;have h3:=h.tb;have h4:=h.wx
 have hW:Wr (fun k=>(Value.slice ad ds.length cd).ownBlock=some k) wr w2:=Wr.ofGrown hg fun k e=>e
 have hz:=(h.z.belowB hb qO).set 2 (.slice ad' ds'.length cd');simp only [List.set_cons_succ,List.set_cons_zero] at hz
 refine ⟨(h.x.belowB hb qO).setOther (p:=⟨Z,2,none⟩) (by show X≠Z;omega) _,hz,(h.t.belowB hb qO).setOther (p:=⟨Z,2,none⟩) (by show T≠Z;omega) _,?_,ho.setCell (p:=⟨Z,2,none⟩) (by show Z<B;omega) _,?_,h.lk,fun k hk=>?_,h.wx,h.xz,h.zt,h.tb,?_,(h.u.trans (hb.mono qO)).setCell (p:=⟨Z,2,none⟩) (by show _≤Z;omega) _⟩
 · refine (KOwn.wr h.ol hW fun k e e2=>?_).setOther (p:=⟨Z,2,none⟩) (fun e=>(h.lk _ e).2.1 rfl) _
   have:=(h.lk k e).2.2.2;have:=(h.od.lt e2).1
   omega
 · exact (KOwn.wr h.on hW fun k e e2=>(h.nk k e).2.2.2 e2).setOther (p:=⟨Z,2,none⟩) (fun e=>(h.nk _ e).2.1 rfl) _
 · obtain ⟨n1,n2,n3,n4⟩:=h.nk k hk
   refine ⟨n1,n2,n3,fun e=>?_⟩
   rcases hr k e with e2|e2
   · exact n4 e2
   · have:=(h.on.lt hk).2;omega
 · have:=hb.size
   have:=h.b
   simp [World.setCell];omega
theorem BkSt.done (h:BkSt w X Z T B st av cv l ds ad cd nst an cn nl wr) (n:Nat) :
 RkOut ((⟨⟨st,l⟩,ds,[]⟩,n),true) w (.returned (.tuple #[.agg #[.int .i64 st,.slice av l.length cv,.slice ad ds.length cd,.slice none 0 0],.int .i64 (n:Int),.bool true])) ((((wr.setCell ⟨X,0,none⟩ (.int .i64 st)).setCell ⟨X,1,none⟩ (.slice av l.length cv)).setCell ⟨X,2,none⟩ (.slice ad ds.length cd)).setCell ⟨X,3,none⟩ (.slice none 0 0)):=by
 have h1:=h.xz;have h2:=h.zt;have h3:=h.tb;have h4:=h.wx
 refine ⟨_,_,_,rfl,⟨?_,?_,KOwn.nil,fun k e e2=>?_,fun k e e2=>(by cases e2),fun k e e2=>(by cases e2)⟩,?_⟩
 · have:=fun (W:World) (o:Nat) (v:Value) (hh:OwnL W w.heap.size (.slice av l.length cv) l)=>hh.setOther (p:=⟨X,o,none⟩) (fun e=>(h.lk _ e).1 rfl) v
   exact this _ _ _ (this _ _ _ (this _ _ _ (this _ _ _ h.ol)))
 · have:=fun (W:World) (o:Nat) (v:Value) (hh:OwnD W B (.slice ad ds.length cd) ds)=>hh.setCell (p:=⟨X,o,none⟩) (by show X<B;omega) v
   exact (this _ _ _ (this _ _ _ (this _ _ _ (this _ _ _ h.od)))).mono qO
 · have:=(h.lk k e).2.2.2
   have:=(h.od.lt e2).1
   omega
 · exact (((h.u.setCell (p:=⟨X,0,none⟩) h4 _).setCell (p:=⟨X,1,none⟩) h4 _).setCell (p:=⟨X,2,none⟩) h4 _).setCell (p:=⟨X,3,none⟩) h4 _
end
theorem zawv {w wr:World} {X:Nat} (hX:w.heap.size≤X) (u:Below w.heap.size w wr):RkOut ((⟨zeroSv,[],[]⟩,0),false) w (.returned (.tuple #[.agg #[.int .i64 0,.slice none 0 0,.slice none 0 0,.slice none 0 0],.int .i64 0,.bool false])) ((((wr.setCell ⟨X,0,none⟩ (.int .i64 0)).setCell ⟨X,1,none⟩ (.slice none 0 0)).setCell ⟨X,2,none⟩ (.slice none 0 0)).setCell ⟨X,3,none⟩ (.slice none 0 0)) :=
 ⟨_,_,_,rfl,⟨KOwn.nil,KOwn.nil,KOwn.nil,fun k e=>(by cases e),fun k e=>(by cases e),fun k e=>(by cases e)⟩,(((u.setCell (p:=⟨X,0,none⟩) hX _).setCell (p:=⟨X,1,none⟩) hX _).setCell (p:=⟨X,2,none⟩) hX _).setCell (p:=⟨X,3,none⟩) hX _⟩
end Go.Proofs.YthfoloefkfadlaaGreatDoor
