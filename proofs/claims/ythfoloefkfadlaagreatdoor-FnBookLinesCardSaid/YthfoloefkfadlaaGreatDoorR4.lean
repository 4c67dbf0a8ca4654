/- Walks of draws: spec.l20Book. -/
import Derived.Test.YthfoloefkfadlaaGreatDoorR3
import Derived.Test.YthfoloefkfadlaaGreatDoorK9
import Derived.Test.YthfoloefkfadlaaGreatDoorKA
import Derived.Test.YthfoloefkfadlaaGreatDoorT1
import Derived.Test.YthfoloefkfadlaaGreatDoorMC
set_option linter.unusedSimpArgs false
set_option linter.unusedVariables false
set_option maxHeartbeats 8000000
set_option maxRecDepth 100000
namespace Go.Proofs.YthfoloefkfadlaaGreatDoor
open Go Go.RowKit Go.Sort
theorem BkOwn.upto {w w':World} {B M R:Nat} {v1 v2 v3:Value} {b:Bk} (h:BkOwn w B v1 v2 v3 b) (hR:R<B) (hu:Upto M R w w') (hM:w.heap.size≤M):BkOwn w' B v1 v2 v3 b :=
 ⟨h.l.upto hR hu (fun k hk=>Nat.lt_of_lt_of_le (h.l.lt hk).2 hM),h.d.upto hR hu (fun k hk=>Nat.lt_of_lt_of_le (h.d.lt hk).2 hM),h.u.upto hR hu (fun k hk=>Nat.lt_of_lt_of_le (h.u.lt hk).2 hM),h.ne12,h.ne13,h.ne23⟩
structure BkDr (w:World) (R X Z B:Nat) (a:Option Addr) (n c q:Nat) (st:Int) (l:List Lg) (d u:List Dd) (v1 v2 v3:Value) (wr:World):Prop where
 r:Rdr wr R a n c q
 x:At wr X [.int .i64 0,.slice none 0 0,.slice none 0 0,.slice none 0 0]
 z:At wr Z [.int .i64 st,v1,v2,v3]
 o:BkOwn wr B v1 v2 v3 ⟨⟨st,l⟩,d,u⟩
 nz:∀ k,bkBlk v1 v2 v3 k→k≠Z
 up:Upto X R w wr
 rx:R<X
 xb:X<B
 bz:B≤Z
 code:∀ b off,0<n→a=some ⟨b,off,none⟩→b<X
section
variable {w wr w2:World} {R X Z B:Nat} {a:Option Addr} {n c q q':Nat} {st:Int} {l:List Lg} {d u:List Dd} {v1 v2 v3:Value}
theorem BkDr.below (h:BkDr w R X Z B a n c q st l d u v1 v2 v3 wr) (hb:Below wr.heap.size wr w2):BkDr w R X Z B a n c q st l d u v1 v2 v3 w2 :=
 ⟨h.r.below hb,h.x.below hb,h.z.below hb,h.o.below hb,h.nz,h.up.trans (Upto.of (hb.mono (by have:=h.x.lt;omega))),h.rx,h.xb,h.bz,h.code⟩
theorem BkDr.upto (h:BkDr w R X Z B a n c q st l d u v1 v2 v3 wr) (hr:Rdr w2 R a n c q') (hu:Upto wr.heap.size R wr w2):BkDr w R X Z B a n c q' st l d u v1 v2 v3 w2 :=
 ⟨hr,h.x.upto hu h.x.lt (by have:=h.rx;omega),h.z.upto hu h.z.lt (by have:=h.rx;have:=h.xb;have:=h.bz;omega),h.o.upto (by have:=h.rx;have:=h.xb;omega) hu (Nat.le_refl _),h.nz,h.up.trans (hu.mono (by have:=h.x.lt;omega)),h.rx,h.xb,h.bz,h.code⟩
theorem BkDr.pick (h:BkDr w R X Z B a n c q st l d u v1 v2 v3 wr) (hr:Rdr w2 R a n c q') (hu:∀ K,Upto K R wr w2):BkDr w R X Z B a n c q' st l d u v1 v2 v3 w2:=h.upto hr (hu _)
theorem BkDr.alloc (h:BkDr w R X Z B a n c q st l d u v1 v2 v3 wr) (o:Obj):BkDr w R X Z B a n c q st l d u v1 v2 v3 (wr.alloc o):=h.below ((Below.refl _ _).alloc (Nat.le_refl _) o)
theorem BkDr.put (h:BkDr w R X Z B a n c q st l d u v1 v2 v3 wr) {st':Int} {l':List Lg} {d' u':List Dd} {v1' v2' v3':Value} {B':Nat} (ho:BkOwn wr B' v1' v2' v3' ⟨⟨st',l'⟩,d',u'⟩) (hB:Z<B') :
 BkDr w R X Z B a n c q st' l' d' u' v1' v2' v3' ((((wr.setCell ⟨Z,0,none⟩ (.int .i64 st')).setCell ⟨Z,1,none⟩ v1').setCell ⟨Z,2,none⟩ v2').setCell ⟨Z,3,none⟩ v3'):=by
 have h1:=h.rx;have h2:=h.xb;have h3:=h.bz;have hb:Below Z wr ((((wr.setCell ⟨Z,0,none⟩ (.int .i64 st')).setCell ⟨Z,1,none⟩ v1').setCell ⟨Z,2,none⟩ v2').setCell ⟨Z,3,none⟩ v3'):=((((Below.refl Z wr).setCell (p:=⟨Z,0,none⟩) (Nat.le_refl _) _).setCell (p:=⟨Z,1,none⟩) (Nat.le_refl _) _).setCell (p:=⟨Z,2,none⟩) (Nat.le_refl _) _).setCell (p:=⟨Z,3,none⟩) (Nat.le_refl _) _
 refine ⟨Rdr.keep h.r qO (fun b off h0 e=>by have:=h.code b off h0 e;omega) hb,h.x.belowB hb qO,h.z.sets4 _ _ _ _,?_,fun k hk=>by have:=(ho.blk hk).1;omega,h.up.trans (Upto.of (hb.mono qO)),h.rx,h.xb,h.bz,h.code⟩
 exact ((((ho.setCell (p:=⟨Z,0,none⟩) hB _).setCell (p:=⟨Z,1,none⟩) hB _).setCell (p:=⟨Z,2,none⟩) hB _).setCell (p:=⟨Z,3,none⟩) hB _).mono qO
end
theorem BkOwn.set4 {w:World} {B Y:Nat} {v1 v2 v3:Value} {b:Bk} (h:BkOwn w B v1 v2 v3 b) (hY:Y<B) (x0 x1 x2 x3:Value):BkOwn ((((w.setCell ⟨Y,0,none⟩ x0).setCell ⟨Y,1,none⟩ x1).setCell ⟨Y,2,none⟩ x2).setCell ⟨Y,3,none⟩ x3) B v1 v2 v3 b :=
 (((h.setCell (p:=⟨Y,0,none⟩) hY _).setCell (p:=⟨Y,1,none⟩) hY _).setCell (p:=⟨Y,2,none⟩) hY _).setCell (p:=⟨Y,3,none⟩) hY _
theorem BkDr.store4 {w wr:World} {R X Z B:Nat} {a:Option Addr} {n c q:Nat} {st:Int} {l:List Lg} {d u:List Dd} {v1 v2 v3:Value} (h:BkDr w R X Z B a n c q st l d u v1 v2 v3 wr) {Y:Nat} (hZ:Z<Y) (hne:∀ k,bkBlk v1 v2 v3 k→k≠Y) (x0 x1 x2 x3:Value) :
 BkDr w R X Z B a n c q st l d u v1 v2 v3 ((((wr.setCell ⟨Y,0,none⟩ x0).setCell ⟨Y,1,none⟩ x1).setCell ⟨Y,2,none⟩ x2).setCell ⟨Y,3,none⟩ x3):=by
 have h1:=h.rx;have h2:=h.xb;have h3:=h.bz;have hb:Below Y wr ((((wr.setCell ⟨Y,0,none⟩ x0).setCell ⟨Y,1,none⟩ x1).setCell ⟨Y,2,none⟩ x2).setCell ⟨Y,3,none⟩ x3):=((((Below.refl Y wr).setCell (p:=⟨Y,0,none⟩) (Nat.le_refl _) _).setCell (p:=⟨Y,1,none⟩) (Nat.le_refl _) _).setCell (p:=⟨Y,2,none⟩) (Nat.le_refl _) _).setCell (p:=⟨Y,3,none⟩) (Nat.le_refl _) _
 have n1:v1.ownBlock≠some Y:=fun e=>hne Y (.inl e) rfl
 have n2:v2.ownBlock≠some Y:=fun e=>hne Y (.inr (.inl e)) rfl
 have n3:v3.ownBlock≠some Y:=fun e=>hne Y (.inr (.inr e)) rfl
 exact ⟨Rdr.keep h.r qO (fun b off h0 e=>by have:=h.code b off h0 e;omega) hb,h.x.belowB hb qO,h.z.belowB hb hZ,
  ⟨(((h.o.l.setOther (p:=⟨Y,0,none⟩) n1 _).setOther (p:=⟨Y,1,none⟩) n1 _).setOther (p:=⟨Y,2,none⟩) n1 _).setOther (p:=⟨Y,3,none⟩) n1 _,(((h.o.d.setOther (p:=⟨Y,0,none⟩) n2 _).setOther (p:=⟨Y,1,none⟩) n2 _).setOther (p:=⟨Y,2,none⟩) n2 _).setOther (p:=⟨Y,3,none⟩) n2 _,(((h.o.u.setOther (p:=⟨Y,0,none⟩) n3 _).setOther (p:=⟨Y,1,none⟩) n3 _).setOther (p:=⟨Y,2,none⟩) n3 _).setOther (p:=⟨Y,3,none⟩) n3 _,h.o.ne12,h.o.ne13,h.o.ne23⟩,
  h.nz,h.up.trans (Upto.of (hb.mono qO)),h.rx,h.xb,h.bz,h.code⟩
theorem BkDr.sta {w wr:World} {R X Z B:Nat} {a:Option Addr} {n c q:Nat} {st:Int} {l:List Lg} {d u:List Dd} {v1 v2 v3:Value} (h:BkDr w R X Z B a n c q st l d u v1 v2 v3 wr) (st':Int):BkDr w R X Z B a n c q st' l d u v1 v2 v3 (wr.setCell ⟨Z,0,none⟩ (.int .i64 st')):=by
 have h1:=h.rx;have h2:=h.xb;have h3:=h.bz;have hb:Below Z wr (wr.setCell ⟨Z,0,none⟩ (.int .i64 st')):=(Below.refl Z wr).setCell (p:=⟨Z,0,none⟩) (Nat.le_refl _) _
 exact ⟨Rdr.keep h.r qO (fun b off h0 e=>by have:=h.code b off h0 e;omega) hb,h.x.belowB hb qO,h.z.set 0 _,⟨h.o.l.setOther (p:=⟨Z,0,none⟩) (fun e=>h.nz Z (.inl e) rfl) _,h.o.d.setOther (p:=⟨Z,0,none⟩) (fun e=>h.nz Z (.inr (.inl e)) rfl) _,h.o.u.setOther (p:=⟨Z,0,none⟩) (fun e=>h.nz Z (.inr (.inr e)) rfl) _,h.o.ne12,h.o.ne13,h.o.ne23⟩,h.nz,h.up.trans (Upto.of (hb.mono qO)),h.rx,h.xb,h.bz,h.code⟩
theorem BkDr.setDone {w wr:World} {R X Z B:Nat} {a:Option Addr} {n c q:Nat} {st:Int} {l:List Lg} {d u d':List Dd} {v1 v2 v3 v2':Value} {B':Nat} (h:BkDr w R X Z B a n c q st l d u v1 v2 v3 wr) (ho:OwnD wr B' v2' d') (hB:Z<B') (hf:∀ k,bkBlk v1 v2 v3 k→k<B') :
 BkDr w R X Z B a n c q st l d' u v1 v2' v3 (wr.setCell ⟨Z,2,none⟩ v2'):=by
 have h1:=h.rx;have h2:=h.xb;have h3:=h.bz;have hb:Below Z wr (wr.setCell ⟨Z,2,none⟩ v2'):=(Below.refl Z wr).setCell (p:=⟨Z,2,none⟩) (Nat.le_refl _) _
 refine ⟨Rdr.keep h.r qO (fun b off h0 e=>by have:=h.code b off h0 e;omega) hb,h.x.belowB hb qO,h.z.set 2 _,⟨h.o.l.setOther (p:=⟨Z,2,none⟩) (fun e=>h.nz Z (.inl e) rfl) _,(ho.setCell (p:=⟨Z,2,none⟩) hB _).mono qO,h.o.u.setOther (p:=⟨Z,2,none⟩) (fun e=>h.nz Z (.inr (.inr e)) rfl) _,fun k e e2=>?_,h.o.ne13,fun k e e2=>?_⟩,fun k hk=>?_,h.up.trans (Upto.of (hb.mono qO)),h.rx,h.xb,h.bz,h.code⟩
 · have:=hf k (.inl e);have:=(ho.lt e2).1;omega
 · have:=hf k (.inr (.inr e2));have:=(ho.lt e).1;omega
 · rcases hk with e|e|e
   · exact h.nz k (.inl e)
   · have:=(ho.lt e).1;omega
   · exact h.nz k (.inr (.inr e))
theorem BkDr.setUndone {w wr w9:World} {R X Z B:Nat} {a:Option Addr} {n c q:Nat} {st:Int} {l:List Lg} {d u u':List Dd} {v1 v2 v3 v3':Value} (h:BkDr w R X Z B a n c q st l d u v1 v2 v3 wr) (hg:wr.grownBy w9 v3.ownBlock) (ho:OwnD w9 B v3' u') (hr:∀ k,v3'.ownBlock=some k→v3.ownBlock=some k∨wr.heap.size≤k) :
 BkDr w R X Z B a n c q st l d u' v1 v2 v3' (w9.setCell ⟨Z,3,none⟩ v3'):=by
 have h1:=h.rx;have h2:=h.xb;have h3:=h.bz;have hz:=h.z.lt
 have hB9:Below B wr w9:=zaga hg qO (fun k e=>(h.o.u.lt e).1)
 have hW:Wr (fun k=>v3.ownBlock=some k) wr w9:=Wr.ofGrown hg fun k e=>e
 have hz9:At w9 Z [.int .i64 st,v1,v2,v3]:=h.z.block (hg.block Z hz fun e=>h.nz Z (.inr (.inr e.symm)) rfl)
 have hb:Below Z w9 (w9.setCell ⟨Z,3,none⟩ v3'):=(Below.refl Z w9).setCell (p:=⟨Z,3,none⟩) (Nat.le_refl _) _
 refine ⟨Rdr.keep (B:=Z) (Rdr.keep (B:=B) h.r qO (fun b off h0 e=>by have:=h.code b off h0 e;omega) hB9) qO (fun b off h0 e=>by have:=h.code b off h0 e;omega) hb,(h.x.belowB hB9 h2).belowB hb qO,hz9.set 3 _,⟨?_,?_,?_,h.o.ne12,fun k e e2=>?_,fun k e e2=>?_⟩,fun k hk=>?_,(h.up.trans (Upto.of (hB9.mono qO))).trans (Upto.of (hb.mono qO)),h.rx,h.xb,h.bz,h.code⟩
 · exact (KOwn.wr h.o.l hW fun k e e2=>h.o.ne13 k e e2).setOther (p:=⟨Z,3,none⟩) (fun e=>h.nz Z (.inl e) rfl) _
 · exact (KOwn.wr h.o.d hW fun k e e2=>h.o.ne23 k e e2).setOther (p:=⟨Z,3,none⟩) (fun e=>h.nz Z (.inr (.inl e)) rfl) _
 · refine ho.setOther (p:=⟨Z,3,none⟩) (fun e=>?_) _
   rcases hr Z e with e2|e2
   · exact h.nz Z (.inr (.inr e2)) rfl
   · omega
 · rcases hr k e2 with e3|e3
   · exact h.o.ne13 k e e3
   · have:=(h.o.l.lt e).2;omega
 · rcases hr k e2 with e3|e3
   · exact h.o.ne23 k e e3
   · have:=(h.o.d.lt e).2;omega
 · rcases hk with e|e|e
   · exact h.nz k (.inl e)
   · exact h.nz k (.inr (.inl e))
   · rcases hr k e with e3|e3
     · exact h.nz k (.inr (.inr e3))
     · omega
theorem ddLit (w:World) (B:Nat) (hB:B≤w.heap.size) (x:Dd):OwnD (w.alloc (.cells #[.int .i64 x.kind,.int .i64 x.index,.int .i64 x.leg.frm,.int .i64 x.leg.to,.int .i64 x.leg.east,.int .i64 x.leg.north,.int .i64 x.leg.up] 82)) B (.slice (some ⟨w.heap.size,0,none⟩) ([x]:List Dd).length 1) [x]:=by
 have:=World.ownsRow_lit (base:=B) (size:=7) (e:=82) w #[.int .i64 x.kind,.int .i64 x.index,.int .i64 x.leg.frm,.int .i64 x.leg.to,.int .i64 x.leg.east,.int .i64 x.leg.north,.int .i64 x.leg.up] 1 hB (by decide) rfl
 have e:(#[.int .i64 x.kind,.int .i64 x.index,.int .i64 x.leg.frm,.int .i64 x.leg.to,.int .i64 x.leg.east,.int .i64 x.leg.north,.int .i64 x.leg.up]:Array Value).toList=ddK.flat [x]:=by simp [zaa4,zabi,ddK]
 rw [e] at this
 exact this
def Szd (N:Nat) (b:Bk):Prop:=b.first.legs.length≤10∧b.done.length+b.undone.length≤N∧0≤b.first.st∧b.first.st≤7
theorem zaln {b:Bk} (h:bkOk b=true):Szd 40 b:=by
 obtain ⟨h1,h2,-,-⟩:=bkOk_iff.1 h;obtain ⟨g1,g2,g3,-⟩:=svOk_iff.1 h1
 exact ⟨by omega,h2,by omega,by omega⟩
theorem zalo:Szd 40 zeroBk:=⟨by simp [zeroBk,zeroSv],by simp [zeroBk],by simp [zeroBk,zeroSv],by simp [zeroBk,zeroSv]⟩
theorem zauf (b:Bk):Szd 40 (bkUndo b).1:=by
 unfold bkUndo
 cases h:bkOk b
 · exact zalo
 · obtain ⟨h1,h2,h3,h4⟩:=zaln h
   simp only [if_true]
   split
   · exact ⟨h1,h2,h3,h4⟩
   · exact ⟨h1,by simp;omega,h3,h4⟩
theorem zaug (b:Bk):Szd 40 (bkRedo b).1:=by
 unfold bkRedo
 cases h:bkOk b
 · exact zalo
 · obtain ⟨h1,h2,h3,h4⟩:=zaln h
   simp only [if_true]
   split
   · exact ⟨h1,h2,h3,h4⟩
   · exact ⟨h1,by simp;omega,h3,h4⟩
theorem zaxu (b:Bk) (x:Dd):Szd 40 (bkDo b x).1:=by
 unfold bkDo
 cases h:bkOk b
 · exact zalo
 · obtain ⟨h1,h2,h3,h4⟩:=zaln h
   simp only [if_true]
   split
   · exact ⟨h1,by simp;omega,h3,h4⟩
   · exact ⟨h1,h2,h3,h4⟩
theorem zauh {b:Bk} (h:bkOk b=true):svOk (bkNow b)=true:=by
 unfold bkNow;rw [if_pos h];exact zacp _ _ (bkOk_iff.1 h).1
theorem zaow (b:Bk):(bkNow b).legs.length≤10∧0≤(bkNow b).st∧(bkNow b).st≤7:=by
 cases h:bkOk b
 · unfold bkNow;rw [h];simp [zeroSv]
 · obtain ⟨g1,g2,g3,-⟩:=svOk_iff.1 (zauh h)
   exact ⟨by omega,by omega,by omega⟩
def DrawnBk (R:Nat) (a:Option Addr) (n c p:Nat) (w:World) (e:Ending) (w':World):Prop :=
 ∃ (b:Bk) (v1 v2 v3:Value) (q:Nat),e=.returned (.agg #[.int .i64 b.first.st,v1,v2,v3])∧BkOwn w' w.heap.size v1 v2 v3 b∧Szd 41 b∧q≤p+2000∧Rdr w' R a n c q∧Upto w.heap.size R w w'
theorem BkDr.done {w wr:World} {R X Z B:Nat} {a:Option Addr} {n c p q:Nat} {st:Int} {l:List Lg} {d u:List Dd} {v1 v2 v3:Value} (h:BkDr w R X Z B a n c q st l d u v1 v2 v3 wr) (hX:w.heap.size=X) (hs:Szd 41 ⟨⟨st,l⟩,d,u⟩) (hq:q≤p+2000) :
 DrawnBk R a n c p w (.returned (.agg #[.int .i64 st,v1,v2,v3])) ((((wr.setCell ⟨X,0,none⟩ (.int .i64 st)).setCell ⟨X,1,none⟩ v1).setCell ⟨X,2,none⟩ v2).setCell ⟨X,3,none⟩ v3):=by
 have h2:=h.xb;have hb:Below X wr ((((wr.setCell ⟨X,0,none⟩ (.int .i64 st)).setCell ⟨X,1,none⟩ v1).setCell ⟨X,2,none⟩ v2).setCell ⟨X,3,none⟩ v3):=((((Below.refl X wr).setCell (p:=⟨X,0,none⟩) (Nat.le_refl _) _).setCell (p:=⟨X,1,none⟩) (Nat.le_refl _) _).setCell (p:=⟨X,2,none⟩) (Nat.le_refl _) _).setCell (p:=⟨X,3,none⟩) (Nat.le_refl _) _
 refine ⟨⟨⟨st,l⟩,d,u⟩,_,_,_,q,rfl,?_,hs,hq,Rdr.keep (B:=X) h.r h.rx (fun b off h0 e=>h.code b off h0 e) hb,by rw [hX];exact h.up.trans (Upto.of hb)⟩
 exact ((((h.o.setCell (p:=⟨X,0,none⟩) h2 _).setCell (p:=⟨X,1,none⟩) h2 _).setCell (p:=⟨X,2,none⟩) h2 _).setCell (p:=⟨X,3,none⟩) h2 _).mono qO
theorem BkOwn.nil3 {w:World} {B:Nat} {v:Value} {st:Int} {l:List Lg} (h:OwnL w B v l):BkOwn w B v (.slice none 0 0) (.slice none 0 0) ⟨⟨st,l⟩,[],[]⟩ :=
 ⟨h,KOwn.nil,KOwn.nil,fun _ _ e=>(by cases e),fun _ _ e=>(by cases e),fun _ e=>(by cases e)⟩
theorem zaq7 (R:Nat) (a:Option Addr) (n c p N:Nat) (w:World) (h:Rdr w R a n c p) (hp:p≤5000) (hN:N≤100) :
 Calls Tryz.prog 35 #[.pointer (some ⟨R,0,none⟩),.int .i64 (N:Int)] w (DrawnBk R a n c p w):=by
 obtain ⟨X,hX⟩:=qN (w.heap.size);obtain ⟨W0,hW0⟩:=qM (w.alloc (.cells #[.int .i64 0,.slice none 0 0,.slice none 0 0,.slice none 0 0] 28))
 have F:At W0 X [.int .i64 0,.slice none 0 0,.slice none 0 0,.slice none 0 0]:=by rw [hW0];exact At.new _ _ _ hX.symm rfl
 have b0:Below w.heap.size w W0:=by rw [hW0];exact qBl
 go_enter Tryz.func35,Tryz.ntmps35
 go_wp2_with fail;rw [← hW0]
 have hRX:R<X:=by have:=h.lt;omega
 have hcode:∀ b off,0<n→a=some ⟨b,off,none⟩→b<X:=fun b off h0 e=>by
  obtain ⟨b',off',e',hlt,_⟩:=h.bytes h0;rw [e] at e'
  cases e'
  omega
 have u:Upto X R w W0:=by rw [← hX];exact Upto.of b0
 replace h:=h.below b0;clear b0 hW0;refine (zann R a n c p 0 _ h qO qO).mono ?_;rintro e w1 ⟨⟨st,l⟩,v,q,rfl,o,hl,hst,hq,hr,u1⟩;obtain ⟨av,cv,rfl⟩:=o.sl;have hXW:=F.lt;have hsz:=u1.size;replace F:=F.upto u1 F.lt qO;replace u:=u.trans (u1.mono qO);simp only at o hl hst;clear u1 h;go_upto_region 2 with fail;obtain ⟨Z,hZ⟩:=qN (w1.heap.size);obtain ⟨V,hV⟩:=qM (w1.alloc (.cells #[.int .i64 st,.slice av l.length cv,.slice none 0 0,.slice none 0 0] 28))
 have Z0:At V Z [.int .i64 st,.slice av l.length cv,.slice none 0 0,.slice none 0 0]:=by rw [hV];exact At.new _ _ _ hZ.symm rfl
 have bV:Below w1.heap.size w1 V:=by rw [hV];exact qBl
 rw [hZ,← hV]
 have H0:BkDr w R X Z W0.heap.size a n c q st l [] [] (.slice av l.length cv) (.slice none 0 0) (.slice none 0 0) V:=by
  refine ⟨hr.below bV,F.below bV,Z0,BkOwn.nil3 (o.below bV),fun k hk=>?_,u.trans (Upto.of (bV.mono (by have:=F.lt;omega))),hRX,hXW,?_,hcode⟩
  · rcases hk with e|e|e
    · have:=(o.lt e).2;omega
    · cases e
    · cases e
  · have:=hsz
    omega
 have hs0:Szd 40 ⟨⟨st,l⟩,[],[]⟩:=⟨hl,by simp,hst.1,hst.2⟩;clear bV hV hZ F u hr Z0 o;go_wp2_with fail;refine (zaao _ _ _ _ _ _ _ H0.r qO qO).mono ?_;rintro e w2 ⟨k0,rfl,hk0,-,hr,u1⟩;replace hk0:=hk0 qO;have H1:=H0.pick hr u1;clear H0 hr u1;go_wp2_with fail
 go_loopw [6] (fun i wr=>∃ (k q2:Nat) (st2:Int) (l2:List Lg) (d u:List Dd) (a1 a2 a3:Option Addr) (c1 c2 c3:Nat),k≤11∧i=.int .i64 k∧Szd 40 ⟨⟨st2,l2⟩,d,u⟩∧q2+30*k≤q+400∧BkDr w R X Z W0.heap.size a n c q2 st2 l2 d u (.slice a1 l2.length c1) (.slice a2 d.length c2) (.slice a3 u.length c3) wr) (fun i _=>(intOf i).toNat)
 case atStart=>exact ⟨k0,q+1,st,l,[],[],av,none,none,cv,0,0,by omega,rfl,hs0,by omega,H1⟩
 case round =>
  clear H1 hs0 hst hl;obtain ⟨k,q2,st2,l2,d,u,a1,a2,a3,c1,c2,c3,hk,rfl,hsz,hq2,H⟩:=hrel;have hsl:l2.length≤10:=hsz.1;have hsd:d.length+u.length≤40:=hsz.2.1
  by_cases hk0:0<k
  · go_wp2_with fail
    refine (zaao _ _ _ _ _ _ _ H.r qO qO).mono ?_;rintro e w2 ⟨k4,rfl,hk4,-,hr,u1⟩;replace hk4:=hk4 qO;have H2:=H.pick hr u1;clear H hr u1
    by_cases e0:k4=0
    · subst e0
      obtain ⟨⟨⟨⟨bst,bl⟩,bd,bu⟩,ok⟩,hp⟩:=qN (bkUndo ⟨⟨st2,l2⟩,d,u⟩)
      have hsz2:Szd 40 ⟨⟨bst,bl⟩,bd,bu⟩:=by have:=zauf ⟨⟨st2,l2⟩,d,u⟩;rw [hp] at this;exact this
      have K:=fun W (hh:RdB W a1 a2 a3 ⟨⟨st2,l2⟩,d,u⟩)=>zaha a1 a2 a3 c1 c2 c3 st2 l2 d u W qO qO qO hh
      rw [hp] at K;have HK:=Lib.hid K;clear K hp;obtain ⟨z,z0,z1,z2,z3,zf⟩:=id H2.z.facts4;go_wp2_with fail;refine (HK.out _ H2.o.kr).mono ?_;rintro e w3 ⟨y1,y2,y3,rfl,oy,c⟩;obtain ⟨b1,k1,b2,k2,b3,k3,rfl,rfl,rfl⟩:=oy.forms;simp only at oy ⊢;have H3:=H2.below c;have hZ3:Z<w2.heap.size:=z;clear z z0 z1 z2 z3 zf c H2;have H4:=(H3.put oy hZ3).alloc (.cells #[.int .i64 bst,.slice b1 bl.length k1,.slice b2 bd.length k2,.slice b3 bu.length k3] 28);obtain ⟨z,z0,z1,z2,z3,zf⟩:=id H3.z.facts4;go_wp2_with fail;go_roundw
      case rel=>exact ⟨k - 1,q2+1,bst,bl,bd,bu,b1,b2,b3,k1,k2,k3,by omega,by go_num,hsz2,by omega,H4⟩
      case measure=>simp [intOf];omega
    · by_cases e1:k4=1
      · subst e1
        obtain ⟨⟨⟨⟨bst,bl⟩,bd,bu⟩,ok⟩,hp⟩:=qN (bkRedo ⟨⟨st2,l2⟩,d,u⟩)
        have hsz2:Szd 40 ⟨⟨bst,bl⟩,bd,bu⟩:=by have:=zaug ⟨⟨st2,l2⟩,d,u⟩;rw [hp] at this;exact this
        have K:=fun W (hh:RdB W a1 a2 a3 ⟨⟨st2,l2⟩,d,u⟩)=>zahb a1 a2 a3 c1 c2 c3 st2 l2 d u W qO qO qO hh
        rw [hp] at K;have HK:=Lib.hid K;clear K hp;obtain ⟨z,z0,z1,z2,z3,zf⟩:=id H2.z.facts4;go_wp2_with fail;refine (HK.out _ H2.o.kr).mono ?_;rintro e w3 ⟨y1,y2,y3,rfl,oy,c⟩;obtain ⟨b1,k1,b2,k2,b3,k3,rfl,rfl,rfl⟩:=oy.forms;simp only at oy ⊢;have H3:=H2.below c;have hZ3:Z<w2.heap.size:=z;clear z z0 z1 z2 z3 zf c H2;have H4:=(H3.put oy hZ3).alloc (.cells #[.int .i64 bst,.slice b1 bl.length k1,.slice b2 bd.length k2,.slice b3 bu.length k3] 28);obtain ⟨z,z0,z1,z2,z3,zf⟩:=id H3.z.facts4;go_wp2_with fail;go_roundw
        case rel=>exact ⟨k - 1,q2+1,bst,bl,bd,bu,b1,b2,b3,k1,k2,k3,by omega,by go_num,hsz2,by omega,H4⟩
        case measure=>simp [intOf];omega
      · have e0':((k4:Int) == 0)=false:=by simpa using e0
        have e1':((k4:Int) == 1)=false:=by simp;omega
        go_upto_region 6 with fail;clear e0' e1' e0 e1 hk4;obtain ⟨⟨nst,nl⟩,hN⟩:=qN (bkNow ⟨⟨st2,l2⟩,d,u⟩);have hns:=zaow ⟨⟨st2,l2⟩,d,u⟩
        have K1:=fun W (hh:RdB W a1 a2 a3 ⟨⟨st2,l2⟩,d,u⟩)=>zad3 a1 a2 a3 c1 c2 c3 st2 l2 d u W qO qO qO hh
        rw [hN] at hns K1;simp only at hns;have HK1:=Lib.hid K1
        have K2:=fun (x:Dd) W (hh:RdB W a1 a2 a3 ⟨⟨st2,l2⟩,d,u⟩)=>zai2 a1 a2 a3 c1 c2 c3 st2 l2 d u x W qO qO qO hh
        have HK2:=Lib.hid K2
        have HS:=Lib.hid (fun x=>zaxu ⟨⟨st2,l2⟩,d,u⟩ x)
        clear K1 K2 hN;have hZ2:Z<w2.heap.size:=H2.z.lt
        have hRZ:R<Z:=by have:=H2.rx;have:=H2.xb;have:=H2.bz;omega
        have HBK:=Lib.hid (show ∀ k,bkBlk (.slice a1 l2.length c1) (.slice a2 d.length c2) (.slice a3 u.length c3) k→k<w2.heap.size from fun k hk=>(H2.o.blk hk).2)
        obtain ⟨z,z0,z1,z2,z3,zf⟩:=id H2.z.facts4;have neVa:w2.heap.size≠R:=qO;have neVb:w2.heap.size+1≠R:=qO
        go_cut [11] (fun p11 wx=>∃ (Y q3:Nat) (bst:Int) (bl:List Lg) (bd bu:List Dd) (b1 b2 b3:Option Addr) (k1 k2 k3:Nat),p11=.pointer (some ⟨Y,0,none⟩)∧Z<Y∧At wx Y [.int .i64 bst,.slice b1 bl.length k1,.slice b2 bd.length k2,.slice b3 bu.length k3]∧Szd 40 ⟨⟨bst,bl⟩,bd,bu⟩∧q3≤q2+21 ∧
         BkOwn wx (Z+1) (.slice b1 bl.length k1) (.slice b2 bd.length k2) (.slice b3 bu.length k3) ⟨⟨bst,bl⟩,bd,bu⟩∧BkDr w R X Z W0.heap.size a n c q3 st2 l2 d u (.slice a1 l2.length c1) (.slice a2 d.length c2) (.slice a3 u.length c3) wx)
        case first =>
         go_region_held3 (fun w'=>w'.cell? ⟨Z,0,none⟩=some (.int .i64 st2)∧w'.cell? ⟨Z,1,none⟩=some (.slice a1 l2.length c1)∧w'.cell? ⟨Z,2,none⟩=some (.slice a2 d.length c2)∧w'.cell? ⟨Z,3,none⟩=some (.slice a3 u.length c3)) (first|exact ⟨by (repeat rw [World.cell?_setCell_other _ _ _ _ (by intro h;injection h;omega)]);assumption,by (repeat rw [World.cell?_setCell_other _ _ _ _ (by intro h;injection h;omega)]);assumption,by (repeat rw [World.cell?_setCell_other _ _ _ _ (by intro h;injection h;omega)]);assumption,by (repeat rw [World.cell?_setCell_other _ _ _ _ (by intro h;injection h;omega)]);assumption⟩|go_keep)
          (first
          | (have _t:=s4;go_at_call 57;refine (HK2.out ⟨kd,ix,⟨g1,g2,g3,g4,g5⟩⟩ _ (H4.below qBl).o.kr).mono ?_;obtain ⟨⟨⟨⟨bst,bl⟩,bd,bu⟩,ok⟩,hp⟩:=qN (bkDo ⟨⟨st2,l2⟩,d,u⟩ ⟨kd,ix,⟨g1,g2,g3,g4,g5⟩⟩);have hsz2:=HS.out ⟨kd,ix,⟨g1,g2,g3,g4,g5⟩⟩;rw [hp] at hsz2 ⊢;clear hp;rintro e w5 ⟨e1,e2,e3,rfl,oy,cc⟩;obtain ⟨b1,k1,b2,k2,b3,k3,rfl,rfl,rfl⟩:=oy.forms;simp only at oy hsz2 ⊢;have H5:=(H4.below qBl).below cc;have s5:w2.heap.size≤w5.heap.size:=Nat.le_trans qSo cc.size;(first|(refine (fun (A0:At w5 (w4.heap.size) [.int .i64 0,.slice none 0 0,.slice none 0 0,.slice none 0 0])=>?_) ?_;rotate_left;focus (refine At.below ?_ cc;(repeat (first|with_reducible exact A0|with_reducible refine At.drew ?_|(with_reducible refine At.new _ _ _ ?_ rfl;focus (first|rfl|(simp;done)|(simp [World.drew];done)))|with_reducible refine At.alloc ?_ _));done))|(refine (fun (A0:At w5 (w4.heap.size+1) [.int .i64 0,.slice none 0 0,.slice none 0 0,.slice none 0 0])=>?_) ?_;rotate_left;focus (refine At.below ?_ cc;(repeat (first|with_reducible exact A0|with_reducible refine At.drew ?_|(with_reducible refine At.new _ _ _ ?_ rfl;focus (first|rfl|(simp;done)|(simp [World.drew];done)))|with_reducible refine At.alloc ?_ _));done))|(refine (fun (A0:At w5 (w3.heap.size) [.int .i64 0,.slice none 0 0,.slice none 0 0,.slice none 0 0])=>?_) ?_;rotate_left;focus (refine At.below ?_ cc;(repeat (first|with_reducible exact A0|with_reducible refine At.drew ?_|(with_reducible refine At.new _ _ _ ?_ rfl;focus (first|rfl|(simp;done)|(simp [World.drew];done)))|with_reducible refine At.alloc ?_ _));done))|(refine (fun (A0:At w5 (w3.heap.size+1) [.int .i64 0,.slice none 0 0,.slice none 0 0,.slice none 0 0])=>?_) ?_;rotate_left;focus (refine At.below ?_ cc;(repeat (first|with_reducible exact A0|with_reducible refine At.drew ?_|(with_reducible refine At.new _ _ _ ?_ rfl;focus (first|rfl|(simp;done)|(simp [World.drew];done)))|with_reducible refine At.alloc ?_ _));done))|(refine (fun (A0:At w5 (w2.heap.size) [.int .i64 0,.slice none 0 0,.slice none 0 0,.slice none 0 0])=>?_) ?_;rotate_left;focus (refine At.below ?_ cc;(repeat (first|with_reducible exact A0|with_reducible refine At.drew ?_|(with_reducible refine At.new _ _ _ ?_ rfl;focus (first|rfl|(simp;done)|(simp [World.drew];done)))|with_reducible refine At.alloc ?_ _));done))|(refine (fun (A0:At w5 (w2.heap.size+1) [.int .i64 0,.slice none 0 0,.slice none 0 0,.slice none 0 0])=>?_) ?_;rotate_left;focus (refine At.below ?_ cc;(repeat (first|with_reducible exact A0|with_reducible refine At.drew ?_|(with_reducible refine At.new _ _ _ ?_ rfl;focus (first|rfl|(simp;done)|(simp [World.drew];done)))|with_reducible refine At.alloc ?_ _));done))|skip);obtain ⟨y5,y50,y51,y52,y53,y5f⟩:=id H5.z.facts4;(first|obtain ⟨x5,x50,x51,x52,x53,x5f⟩:=A0.facts4|skip))
          | (have _t:=s3;go_at_call 79;refine (zaip R a n c _ an nl.length cn nst _ (H3.below qBl).r qO qO qO).mono ?_;rintro e w4 ⟨⟨kd,ix,⟨g1,g2,g3,g4,g5⟩⟩,q4,rfl,-,-,hq4,h4,u4⟩;have H4:=(H3.below qBl).upto h4 u4;have s4:w2.heap.size≤w4.heap.size:=Nat.le_trans qSo u4.size;have new4a:w4.heap.size≠R:= qO;have new4b:w4.heap.size+1≠R:= qO;(first|(refine (fun (A0:At w4 (w3.heap.size) [.int .i64 0,.slice none 0 0,.slice none 0 0,.slice none 0 0])=>?_) ?_;rotate_left;focus (refine At.upto ?_ u4 ?_ (new3a);rotate_left;(focus (first|omega|(simp;done)|(simp;omega)|(simp [World.drew];done)));(repeat (first|with_reducible exact A0|with_reducible refine At.drew ?_|(with_reducible refine At.new _ _ _ ?_ rfl;focus (first|rfl|(simp;done)|(simp [World.drew];done)))|with_reducible refine At.alloc ?_ _));done))|(refine (fun (A0:At w4 (w3.heap.size+1) [.int .i64 0,.slice none 0 0,.slice none 0 0,.slice none 0 0])=>?_) ?_;rotate_left;focus (refine At.upto ?_ u4 ?_ (new3b);rotate_left;(focus (first|omega|(simp;done)|(simp;omega)|(simp [World.drew];done)));(repeat (first|with_reducible exact A0|with_reducible refine At.drew ?_|(with_reducible refine At.new _ _ _ ?_ rfl;focus (first|rfl|(simp;done)|(simp [World.drew];done)))|with_reducible refine At.alloc ?_ _));done))|(refine (fun (A0:At w4 (w2.heap.size) [.int .i64 0,.slice none 0 0,.slice none 0 0,.slice none 0 0])=>?_) ?_;rotate_left;focus (refine At.upto ?_ u4 ?_ (neVa);rotate_left;(focus (first|omega|(simp;done)|(simp;omega)|(simp [World.drew];done)));(repeat (first|with_reducible exact A0|with_reducible refine At.drew ?_|(with_reducible refine At.new _ _ _ ?_ rfl;focus (first|rfl|(simp;done)|(simp [World.drew];done)))|with_reducible refine At.alloc ?_ _));done))|(refine (fun (A0:At w4 (w2.heap.size+1) [.int .i64 0,.slice none 0 0,.slice none 0 0,.slice none 0 0])=>?_) ?_;rotate_left;focus (refine At.upto ?_ u4 ?_ (neVb);rotate_left;(focus (first|omega|(simp;done)|(simp;omega)|(simp [World.drew];done)));(repeat (first|with_reducible exact A0|with_reducible refine At.drew ?_|(with_reducible refine At.new _ _ _ ?_ rfl;focus (first|rfl|(simp;done)|(simp [World.drew];done)))|with_reducible refine At.alloc ?_ _));done))|skip);obtain ⟨y4,y40,y41,y42,y43,y4f⟩:=id H4.z.facts4;(first|obtain ⟨x4,x40,x41,x42,x43,x4f⟩:=A0.facts4|skip);(try simp only))
          | (go_at_call 80;refine (HK1.out _ (H2.below qBl).o.kr).mono ?_;rintro e w3 ⟨vn,rfl,on,cc⟩;obtain ⟨an,cn,rfl⟩:=on.sl;have H3:=(H2.below qBl).below cc;have s3:w2.heap.size≤w3.heap.size:=Nat.le_trans qSo cc.size;have new3a:w3.heap.size≠R:= qO;have new3b:w3.heap.size+1≠R:= qO;(first|(refine (fun (A0:At w3 (w2.heap.size) [.int .i64 0,.slice none 0 0,.slice none 0 0,.slice none 0 0])=>?_) ?_;rotate_left;focus (refine At.below ?_ cc;(repeat (first|with_reducible exact A0|with_reducible refine At.drew ?_|(with_reducible refine At.new _ _ _ ?_ rfl;focus (first|rfl|(simp;done)|(simp [World.drew];done)))|with_reducible refine At.alloc ?_ _));done))|(refine (fun (A0:At w3 (w2.heap.size+1) [.int .i64 0,.slice none 0 0,.slice none 0 0,.slice none 0 0])=>?_) ?_;rotate_left;focus (refine At.below ?_ cc;(repeat (first|with_reducible exact A0|with_reducible refine At.drew ?_|(with_reducible refine At.new _ _ _ ?_ rfl;focus (first|rfl|(simp;done)|(simp [World.drew];done)))|with_reducible refine At.alloc ?_ _));done))|skip);obtain ⟨y3,y30,y31,y32,y33,y3f⟩:=id H3.z.facts4;(first|obtain ⟨x3,x30,x31,x32,x33,x3f⟩:=A0.facts4|skip)))
         all_goals (go_wp2_with fail;go_meet)
         all_goals (first
          | (refine ⟨_,q4,bst,bl,bd,bu,b1,b2,b3,k1,k2,k3,rfl,?_,At.new _ _ _ rfl rfl,hsz2,?_,BkOwn.mono (oy.alloc _) ?_,H5.alloc _⟩ <;> first|omega|(simp;done)|(simp;omega)|(simp [World.drew];omega))
          | (refine ⟨_,q4,bst,bl,bd,bu,b1,b2,b3,k1,k2,k3,rfl,?_,A0.sets4 _ _ _ _,hsz2,?_,BkOwn.mono (BkOwn.set4 oy ?_ _ _ _ _) ?_,H5.store4 ?_ ?_ _ _ _ _⟩ <;> first|omega|(simp;done)|(simp;omega)|(simp [World.drew];omega)|(intro k hk;have:=HBK.out k hk;omega))
          | fail)
        case rest =>
         obtain ⟨Y,q3,bst,bl,bd,bu,b1,b2,b3,k1,k2,k3,rfl,hYZ,A3,hsz2,hq3,oy,H3⟩:=hcut;clear z z0 z1 z2 z3 zf H2;obtain ⟨y,y0,y1,y2,y3,yf⟩:=id A3.facts4;obtain ⟨z,z0,z1,z2,z3,zf⟩:=id H3.z.facts4;have H4:=H3.put oy (Nat.lt_succ_self Z);go_wp2_with fail;go_roundw
         case rel=>exact ⟨k - 1,q3,bst,bl,bd,bu,b1,b2,b3,k1,k2,k3,by omega,by go_num,hsz2,by omega,H4⟩
         case measure=>simp [intOf];omega
  · obtain rfl:k=0:=by omega
    clear hk0 hk
    have fin:∀ (q3:Nat) (W:World) (st3:Int) (d3 u3:List Dd) (v2 v3:Value),q3≤p+2000→Szd 41 ⟨⟨st3,l2⟩,d3,u3⟩→BkDr w R X Z W0.heap.size a n c q3 st3 l2 d3 u3 (.slice a1 l2.length c1) v2 v3 W→DrawnBk R a n c p w (.returned (.agg #[.int .i64 st3,.slice a1 l2.length c1,v2,v3])) ((((W.setCell ⟨X,0,none⟩ (.int .i64 st3)).setCell ⟨X,1,none⟩ (.slice a1 l2.length c1)).setCell ⟨X,2,none⟩ v2).setCell ⟨X,3,none⟩ v3):=fun q3 W st3 d3 u3 v2 v3 h1 h2 h3=>h3.done hX h2 h1
    have FIN:=Lib.hid fin;clear fin;have hs41:Szd 41 ⟨⟨st2,l2⟩,d,u⟩:=⟨hsz.1,by have:=hsz.2.1;simp only at this ⊢;omega,hsz.2.2.1,hsz.2.2.2⟩;have HS:=Lib.hid hs41;clear hs41
    by_cases hN0:N=0
    · subst hN0
      go_wp2_with fail;refine (zajg _ _).mono ?_;rintro e W ⟨rfl,rfl⟩;obtain ⟨y,y0,y1,y2,y3,yf⟩:=id H.z.facts4;obtain ⟨r,r0,r1,r2,r3,rf⟩:=id H.x.facts4;go_wp2_with fail
      exact bodyPost_ret (v:=.agg #[.int .i64 st2,.slice a1 l2.length c1,.slice a2 d.length c2,.slice a3 u.length c3]) (by simp [results,Tryz.results35,go_sem,r,r0,r1,r2,r3]) rfl (FIN.out _ _ _ _ _ _ _ qO HS.out H)
    · go_wp2_with fail
      refine (zaka _ _ _ _ _ _ _ H.r qO qO qO).mono ?_;rintro e W ⟨ob,rfl,hr,u1⟩;have H1:=H.pick hr u1;clear H hr u1
      cases ob with
      | false =>
        obtain ⟨y,y0,y1,y2,y3,yf⟩:=id H1.z.facts4;obtain ⟨r,r0,r1,r2,r3,rf⟩:=id H1.x.facts4;go_wp2_with fail
        exact bodyPost_ret (v:=.agg #[.int .i64 st2,.slice a1 l2.length c1,.slice a2 d.length c2,.slice a3 u.length c3]) (by simp [results,Tryz.results35,go_sem,r,r0,r1,r2,r3]) rfl (FIN.out _ _ _ _ _ _ _ qO HS.out H1)
      | true =>
        go_wp2_with fail;refine (zaao _ _ _ _ _ _ _ H1.r qO qO).mono ?_;rintro e W2 ⟨k6,rfl,hk6,-,hr,u1⟩;have H2:=H1.pick hr u1;clear hr u1 H1;replace hk6:=hk6 qO;have hk:k6=0∨k6=1∨k6=2:=qO;obtain ⟨y,y0,y1,y2,y3,yf⟩:=id H2.z.facts4;obtain ⟨r,r0,r1,r2,r3,rf⟩:=id H2.x.facts4
        have hBz:W0.heap.size≤W2.heap.size:=by have:=H2.bz;have:=y;omega
        have hXZ:¬ X=Z:=by have:=H2.xb;have:=H2.bz;omega
        rcases hk with rfl|rfl|rfl
        · have H3:=H2.sta 0
          have FN:=Lib.hid (FIN.out _ _ 0 d u _ _ qO ⟨HS.out.1,HS.out.2.1,by simp,by simp⟩ H3);clear H3;go_wp2_with fail
          exact bodyPost_ret (v:=.agg #[.int .i64 0,.slice a1 l2.length c1,.slice a2 d.length c2,.slice a3 u.length c3]) (by simp [results,Tryz.results35,go_sem,r,r0,r1,r2,r3]) rfl FN.out
        · have hd:=H2.o.d.kr
          have hu:=H2.o.u.kr
          have hBK:=Lib.hid (show ∀ k,bkBlk (.slice a1 l2.length c1) (.slice a2 d.length c2) (.slice a3 u.length c3) k→k<W2.heap.size from fun k hk=>(H2.o.blk hk).2)
          go_wp2_with (at_builtin;refine zaaj ddI _ _ rfl rfl W2.heap.size _ [⟨1,9,noLeg⟩] d a2 c2 rfl (ddLit W2 W2.heap.size (Nat.le_refl _) ⟨1,9,noLeg⟩) rfl (hd.alloc _) qP qO qP ?_;rintro av9 cv9 w9 o9 - b9 -;have b9':Below W2.heap.size W2 w9:=((Below.refl _ W2).alloc (Nat.le_refl _) _).trans b9;have H3:=H2.below b9';have Y9:=H3.z;have X9:=H3.x;clear y y0 y1 y2 y3 yf r r0 r1 r2 r3 rf;obtain ⟨y,y0,y1,y2,y3,yf⟩:=id Y9.facts4;obtain ⟨r,r0,r1,r2,r3,rf⟩:=id X9.facts4)
          have hZ2:=H2.z.lt;have H4:=H3.setDone o9 hZ2 hBK.out;have FN:=Lib.hid (FIN.out _ _ st2 ([⟨1,9,noLeg⟩] ++ d) u _ _ qO ⟨HS.out.1,by have:=HS.out.2.1;simp only [List.length_append,List.length_cons,List.length_nil] at this ⊢;omega,HS.out.2.2.1,HS.out.2.2.2⟩ H4);clear H4 H3 H2 Y9 X9
          exact bodyPost_ret (v:=.agg #[.int .i64 st2,.slice a1 l2.length c1,.slice av9 ([(⟨1,9,noLeg⟩:Dd)] ++ d).length cv9,.slice a3 u.length c3]) (by simp [results,Tryz.results35,go_sem,r,r0,r1,r2,r3]) rfl FN.out
        · have hu:=H2.o.u
          go_wp2_with (at_builtin;refine zaaj ddI _ _ rfl rfl W0.heap.size (.slice a3 u.length c3) u [⟨1,9,noLeg⟩] (some ⟨W2.heap.size,0,none⟩) 1 rfl (hu.below ((Below.refl _ _).alloc (Nat.le_refl _) _)) rfl (zaem W2 ⟨1,9,noLeg⟩ _) qO qP (by simp;omega) ?_;rintro av9 cv9 w9 o9 g9 b9 p9;have H3:=H2.alloc (.cells #[.int .i64 1,.int .i64 9,.int .i64 0,.int .i64 0,.int .i64 0,.int .i64 0,.int .i64 0] 82);have Y9:=H3.z.block (g9.block Z H3.z.lt fun e=>H3.nz Z (.inr (.inr e.symm)) rfl);have X9:=H3.x.belowB b9 H3.xb;clear y y0 y1 y2 y3 yf r r0 r1 r2 r3 rf;obtain ⟨y,y0,y1,y2,y3,yf⟩:=id Y9.facts4;obtain ⟨r,r0,r1,r2,r3,rf⟩:=id X9.facts4)
          have H4:=H3.setUndone g9 o9 (fun k e=>by
           rcases p9 with e2|e2
           · left;rw [← e2];exact e
           · right;rw [e2] at e;cases e;exact Nat.le_refl _)
          have FN:=Lib.hid (FIN.out _ _ st2 d (u ++ [⟨1,9,noLeg⟩]) _ _ qO ⟨HS.out.1,by have:=HS.out.2.1;simp only [List.length_append,List.length_cons,List.length_nil] at this ⊢;omega,HS.out.2.2.1,HS.out.2.2.2⟩ H4);clear H4 H3 H2 Y9 X9;have hlen:(u ++ [(⟨1,9,noLeg⟩:Dd)]).length=u.length+1:=qP;rw [hlen] at FN
          exact bodyPost_ret (v:=.agg #[.int .i64 st2,.slice a1 l2.length c1,.slice a2 d.length c2,.slice av9 (u.length+1) cv9]) (by simp [results,Tryz.results35,go_sem,r,r0,r1,r2,r3]) rfl FN.out
set_option maxHeartbeats 4000000
def DrawnLn (R:Nat) (a:Option Addr) (n c p:Nat) (w:World) (e:Ending) (w':World):Prop:=∃ (t:ByteArray) (q:Nat),e=.returned (.string t)∧t.size≤400∧q≤p+30∧Rdr w' R a n c q∧Upto w.heap.size R w w'
def words7:List Value:=[.string ⟨#[110,111,119]⟩,.string ⟨#[108,111,111,112,115]⟩,.string ⟨#[116,114,101,101,115]⟩,.string ⟨#[99,108,111,115,101,115]⟩,.string ⟨#[117,110,100,111]⟩,.string ⟨#[114,101,100,111]⟩,.string ⟨#[117,110,100,111]⟩]
theorem zasz (k:Nat) (h:k<7):∃ u:ByteArray,u.size≤20∧words7[k]?=some (.string u):=by
 have:k=0∨k=1∨k=2∨k=3∨k=4∨k=5∨k=6:=qO
 rcases this with rfl|rfl|rfl|rfl|rfl|rfl|rfl
 · exact ⟨⟨#[110,111,119]⟩,by decide,rfl⟩
 · exact ⟨⟨#[108,111,111,112,115]⟩,by decide,rfl⟩
 · exact ⟨⟨#[116,114,101,101,115]⟩,by decide,rfl⟩
 · exact ⟨⟨#[99,108,111,115,101,115]⟩,by decide,rfl⟩
 · exact ⟨⟨#[117,110,100,111]⟩,by decide,rfl⟩
 · exact ⟨⟨#[114,101,100,111]⟩,by decide,rfl⟩
 · exact ⟨⟨#[117,110,100,111]⟩,by decide,rfl⟩
def words8:List Value:=[.string ⟨#[]⟩,.string ⟨#[112,117,116]⟩,.string ⟨#[100,114,111,112,32,48,49]⟩,.string ⟨#[116,117,114,110,32,120]⟩,.string ⟨#[32,110,111,119]⟩,.string ⟨#[108,101,115,115,32,49]⟩,.string ⟨#[119,104,101,114,101]⟩,.string ⟨#[119,104,101,114,101,32,57]⟩]
theorem zas0 (k:Nat) (h:k<8):∃ u:ByteArray,u.size≤20∧words8[k]?=some (.string u):=by
 have:k=0∨k=1∨k=2∨k=3∨k=4∨k=5∨k=6∨k=7:=qO
 rcases this with rfl|rfl|rfl|rfl|rfl|rfl|rfl|rfl
 · exact ⟨⟨#[]⟩,by decide,rfl⟩
 · exact ⟨⟨#[112,117,116]⟩,by decide,rfl⟩
 · exact ⟨⟨#[100,114,111,112,32,48,49]⟩,by decide,rfl⟩
 · exact ⟨⟨#[116,117,114,110,32,120]⟩,by decide,rfl⟩
 · exact ⟨⟨#[32,110,111,119]⟩,by decide,rfl⟩
 · exact ⟨⟨#[108,101,115,115,32,49]⟩,by decide,rfl⟩
 · exact ⟨⟨#[119,104,101,114,101]⟩,by decide,rfl⟩
 · exact ⟨⟨#[119,104,101,114,101,32,57]⟩,by decide,rfl⟩
theorem zaq8 (R B:Nat) (a:Option Addr) (n c p:Nat) (a1 a2 a3:Option Addr) (c1 c2 c3:Nat) (st:Int) (l:List Lg) (d u:List Dd) (w:World) (h:Rdr w R a n c p) (hp:p≤80000) (hl:l.length≤10) (hdu:d.length+u.length≤41) (hRB:R<B) (o:BkOwn w B (.slice a1 l.length c1) (.slice a2 d.length c2) (.slice a3 u.length c3) ⟨⟨st,l⟩,d,u⟩) :
 Calls Tryz.prog 37 #[.pointer (some ⟨R,0,none⟩),.agg #[.int .i64 st,.slice a1 l.length c1,.slice a2 d.length c2,.slice a3 u.length c3]] w (DrawnLn R a n c p w):=by
 obtain ⟨X,hX⟩:=qN (w.heap.size);obtain ⟨W0,hW0⟩:=qM (w.alloc (.cells #[.int .i64 st,.slice a1 l.length c1,.slice a2 d.length c2,.slice a3 u.length c3] 28))
 have F0:At W0 X [.int .i64 st,.slice a1 l.length c1,.slice a2 d.length c2,.slice a3 u.length c3]:=by rw [hW0];exact At.new _ _ _ hX.symm rfl
 have b0:Below w.heap.size w W0:=by rw [hW0];exact qBl
 have hRX:R<X:=by rw [← hX];exact h.lt
 go_enter Tryz.func37,Tryz.ntmps37
 go_wp2_with fail;rw [← hW0];clear hW0;refine (zaao _ _ _ _ _ _ _ (h.below b0) qO qO).mono ?_;rintro e w1 ⟨k,rfl,hk,-,hr1,u1⟩;replace hk:=hk qO;have hXW:=F0.lt;have U1:Upto w.heap.size R w w1:=Upto.next (Upto.of b0) u1;have o1:=BkOwn.upto (o.below b0) hRB (u1 W0.heap.size) (Nat.le_refl _);have F1:=F0.upto (u1 (X+1)) qO qO;have hR1:R<w1.heap.size:=hr1.lt;have hXw1:w.heap.size≤w1.heap.size:=U1.size;clear u1 F0 b0 h o;have hk4:k=0∨k=1∨k=2∨k=3:=qO;clear hk
 rcases hk4 with rfl|rfl|rfl|rfl
 · go_wp2_with fail
   refine (zaao _ _ _ _ _ _ _ (hr1.below qBl) qO qO).mono ?_;rintro e w2 ⟨j,rfl,hj,-,hr2,u2⟩;replace hj:=hj qO;obtain ⟨x,hx7,hx⟩:=zasz j qO;have A0:=At.bornU (V:=w1) hR1 (Nat.le_refl _) u2;have A0k:=A0.c j _ hx;have hj0:(0:Int)≤(j:Int):=qO;have U:Upto w.heap.size R w w2:=Upto.next (Upto.alloc' U1 hXw1 _) u2;clear U1 u2 hx A0;go_wp2_with fail;go_ret
   exact ⟨x,_,rfl,by omega,by omega,hr2,U⟩
 · go_wp2_with fail
   refine (zaao _ _ _ _ _ _ _ (hr1.below qBl) qO qO).mono ?_;rintro e w2 ⟨j,rfl,hj,-,hr2,u2⟩;replace hj:=hj qO;obtain ⟨x,hx7,hx⟩:=zas0 j qO;have A0:=At.bornU (V:=w1) hR1 (Nat.le_refl _) u2;have A0k:=A0.c j _ hx;have hj0:(0:Int)≤(j:Int):=qO;have U:Upto w.heap.size R w w2:=Upto.next (Upto.alloc' U1 hXw1 _) u2;clear U1 u2 hx A0;go_wp2_with fail;go_ret
   exact ⟨x,_,rfl,by omega,by omega,hr2,U⟩
 · go_wp2_with fail
   refine (zaao _ _ _ _ _ _ _ hr1 qO qO).mono ?_;rintro e w2 ⟨j,rfl,hj,-,hr2,u2⟩;replace hj:=hj qO;have U:Upto w.heap.size R w w2:=Upto.next U1 u2;clear U1 u2;have hsz:=zaag (n:=(j:Int)) qO qO;go_wp2_with fail;refine (zabd (j:Int) qO qO _).mono ?_;rintro e w3 ⟨rfl,b3⟩;have n1:¬ 9223372036854775807<6+(itoaB (j:Int)).size:=qO;have U3:Upto w.heap.size R w w3:=U.trans (Upto.of (b3.mono U.size));have hr3:=hr2.below b3;clear b3 U hr2;go_wp2_with fail;go_ret
   exact ⟨_,_,rfl,by rw [ByteArray.size_append];show 6+_≤400;omega,by omega,hr3,U3⟩
 · obtain ⟨⟨nst,nl⟩,hN⟩:=qN (bkNow ⟨⟨st,l⟩,d,u⟩)
   have hns:=zaow ⟨⟨st,l⟩,d,u⟩;have K1:=zad3 a1 a2 a3 c1 c2 c3 st l d u w1 qO qO qO o1.kr;rw [hN] at hns K1;simp only at hns;have HK1:=Lib.hid K1;clear K1 hN;obtain ⟨f,f0,f1,f2,f3,-⟩:=id F1.facts4;go_wp2_with fail;refine HK1.out.mono ?_;rintro e w2 ⟨vn,rfl,on,b2⟩;obtain ⟨an,cn,rfl⟩:=on.sl;have U2:Upto w.heap.size R w w2:=U1.trans (Upto.of (b2.mono hXw1));have hr2:=hr1.below b2;simp only;clear b2 U1 hr1 F1 f f0 f1 f2 f3 o1 on;go_wp2_with fail;refine (zaip R a n c _ an nl.length cn nst _ hr2 qO qO qO).mono ?_;rintro e w3 ⟨⟨kd,ix,⟨g1,g2,g3,g4,g5⟩⟩,q3,rfl,-,-,hq3,hr3,u3⟩;have U3:Upto w.heap.size R w w3:=U2.trans (u3.mono U2.size);have i1:=zadk ⟨kd,ix,⟨g1,g2,g3,g4,g5⟩⟩;have htl:=zajw ⟨kd,ix,⟨g1,g2,g3,g4,g5⟩⟩;obtain ⟨t,ht⟩:=qN (deedB ⟨kd,ix,⟨g1,g2,g3,g4,g5⟩⟩);rw [ht] at i1 htl;clear ht;simp only [Dd.val] at i1;clear u3 U2 hr2;go_wp2_with fail;refine (i1 _).mono ?_;rintro e w4 ⟨rfl,b4⟩;have U4:Upto w.heap.size R w w4:=U3.trans (Upto.of (b4.mono U3.size));go_wp2_with fail;go_ret
   exact ⟨t,q3,rfl,by omega,by omega,hr3.below b4,U4⟩
end Go.Proofs.YthfoloefkfadlaaGreatDoor
