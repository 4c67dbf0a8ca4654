/- Walks: BookUndo, BookRedo (the theorems are written by wip/bin/gen_g26.py). -/
import Derived.Test.YthfoloefkfadlaaGreatDoorK9
import Derived.Deep.RegionLaw
import Derived.Deep.DeepCutAuto
import Derived.Deep.RegionHeld3
set_option linter.unusedSimpArgs false
set_option linter.unusedVariables false
set_option maxHeartbeats 2000000
set_option maxRecDepth 100000
namespace Go.Proofs.YthfoloefkfadlaaGreatDoor
open Go Go.RowKit Go.Sort
theorem zakr {b:Bk} (h:bkOk b=false):bkUndo b=(zeroBk,false):=by simp [bkUndo,h]
theorem zaiy {b:Bk} (h:bkOk b=true) (h0:b.done.length=0):bkUndo b=(b,false):=by unfold bkUndo;rw [if_pos h,if_pos h0]
theorem zaiz {b:Bk} (h:bkOk b=true) {n:Nat} (h0:b.done.length=n+1):bkUndo b=(⟨b.first,b.done.take n,b.undone ++ [nth b.done n]⟩,true):=by unfold bkUndo;rw [if_pos h,if_neg qO,h0];simp
theorem zaks {b:Bk} (h:bkOk b=false):bkRedo b=(zeroBk,false):=by simp [bkRedo,h]
theorem zai0 {b:Bk} (h:bkOk b=true) (h0:b.undone.length=0):bkRedo b=(b,false):=by unfold bkRedo;rw [if_pos h,if_pos h0]
theorem zai1 {b:Bk} (h:bkOk b=true) {n:Nat} (h0:b.undone.length=n+1):bkRedo b=(⟨b.first,b.done ++ [nth b.undone n],b.undone.take n⟩,true):=by unfold bkRedo;rw [if_pos h,if_neg qO,h0];simp
theorem zab1 {b:Bk} (h:bkOk b=true):b.first.legs.length≤9∧b.done.length+b.undone.length≤40:=⟨zafg (bkOk_iff.1 h).1,(bkOk_iff.1 h).2.1⟩
theorem KOwn.cut {α:Type} [Inhabited α] {K:Kind α} {T:TypeId} {w:World} {B:Nat} {a:Option Addr} {n c:Nat} {xs:List α} (h:KOwn K T w B (.slice a n c) xs) (k:Nat) (hk:k≤xs.length):KOwn K T w B (.slice a k c) (xs.take k):=by
 rcases h.2 with ⟨e,hn⟩|⟨g,cap,cur,e,hB,hg,hn,hc,hs,ht⟩
 · cases e
   have:xs=[]:=List.eq_nil_of_length_eq_zero qO;subst this
   obtain rfl:k=0:=by simpa using hk
   exact KOwn.nil
 · cases e
   have hl:(xs.take k).length=k:=by simp;omega
   refine ⟨zaau _,.inr ⟨g,c,cur,by rw [hl],hB,hg,by omega,hc,hs,?_⟩⟩
   rw [hl]
   have e1:K.flat xs=K.flat (xs.take k) ++ K.flat (xs.drop k):=by rw [← zai4,List.take_append_drop]
   have e2:(K.flat (xs.take k)).length=k*K.sz:=by rw [zaau,hl]
   have hle:k*K.sz≤xs.length*K.sz:=Nat.mul_le_mul_right _ hk
   have e3:cur.toList.take (k*K.sz)=(cur.toList.take (xs.length*K.sz)).take (k*K.sz):=by rw [List.take_take,Nat.min_eq_left hle]
   rw [e3,ht,e1,← e2,List.take_left]
theorem zac8 {P:Program} {α:Type} [Inhabited α] {K:Kind α} {T t:TypeId} (I:KInfo P K T t) {w:World} {ops:Array Oper} {o:Oper} {a:Act} {K':Act→World→Prop} {Q:Exit→Act→World→Prop} {E:Prop} (s x:Operand) (hg:o.guard=none)
 (hop:o.op=.call { callee:=.builtin .append,args:=#[s,x],argTypes:=#[t,t] }) (B:Nat) (v:Value) (xs ys zs:List α) (hz:xs ++ ys=zs) (m:Nat) (hm:ys.length=m) (q:Nat) (hq:zs.length=q) (A:Option Addr) (c:Nat) (hs:a.eval s=v)
 (hown:KOwn K T w B v xs) (hx:a.eval x=.slice A m c) (hy:KRd K w A ys) (hl:xs.length≤2097160) (hl2:ys.length≤2097160) (hB:B≤w.heap.size)
 (hK:∀ av cv w',KOwn K T w' B (.slice av q cv) zs→w.grownBy w' v.ownBlock→Below B w w'→(∀ k,(Value.slice av q cv).ownBlock=some k→v.ownBlock=some k∨k=w.heap.size)→K' (a.put o.dst (.slice av q cv)) w') :
 if Region.wanted o (yielded ops a.tmps)=true then Oper.wp P o a w K' Q else E:=by
 subst hz hm hq
 exact zaen I s x hg hop B v xs ys A c hs hown hx hy hl hl2 hB fun av cv w' h1 h2 h3 h4=>hK av cv w' h1 h2 h3 fun k hk=>by
  rcases h4 with e|e
  · exact .inl (e▸hk)
  · rw [e] at hk;cases hk;exact .inr rfl
theorem zaap {w wz:World} {X B:Nat} {u0 u1 u2 u3 v0 v1 v2 v3:Value} {b:Bk} (hX:w.heap.size≤X) (hB:X<B) (hwB:w.heap.size≤B) (R:At wz X [u0,u1,u2,u3]) (o:BkOwn wz B v1 v2 v3 b) (hb:Below w.heap.size w wz) :
 At ((((wz.setCell ⟨X,0,none⟩ v0).setCell ⟨X,1,none⟩ v1).setCell ⟨X,2,none⟩ v2).setCell ⟨X,3,none⟩ v3) X [v0,v1,v2,v3] ∧
 BkOwn ((((wz.setCell ⟨X,0,none⟩ v0).setCell ⟨X,1,none⟩ v1).setCell ⟨X,2,none⟩ v2).setCell ⟨X,3,none⟩ v3) w.heap.size v1 v2 v3 b ∧
 Below w.heap.size w ((((wz.setCell ⟨X,0,none⟩ v0).setCell ⟨X,1,none⟩ v1).setCell ⟨X,2,none⟩ v2).setCell ⟨X,3,none⟩ v3):=by
 refine ⟨R.sets4 _ _ _ _,?_,?_⟩
 · exact ((((o.setCell (p:=⟨X,0,none⟩) hB _).setCell (p:=⟨X,1,none⟩) hB _).setCell (p:=⟨X,2,none⟩) hB _).setCell (p:=⟨X,3,none⟩) hB _).mono hwB
 · exact (((hb.setCell (p:=⟨X,0,none⟩) hX _).setCell (p:=⟨X,1,none⟩) hX _).setCell (p:=⟨X,2,none⟩) hX _).setCell (p:=⟨X,3,none⟩) hX _
theorem zahy (a1 a2 a3:Option Addr) (c1 c2 c3:Nat) (st:Int) (l:List Lg) (d u:List Dd) (w:World) (hl:l.length≤1048576) (hd:d.length≤1048576) (hu:u.length≤1048576) (hs:RdB w a1 a2 a3 ⟨⟨st,l⟩,d,u⟩) :
 Calls Tryz.prog 17 #[.agg #[.int .i64 st,.slice a1 l.length c1,.slice a2 d.length c2,.slice a3 u.length c3]] w (BkOut (bkUndo ⟨⟨st,l⟩,d,u⟩) w):=by
 obtain ⟨X,hX⟩:=qN (w.heap.size);obtain ⟨W1,hW1⟩:=qM ((w.alloc (.cells #[.int .i64 st,.slice a1 l.length c1,.slice a2 d.length c2,.slice a3 u.length c3] 28)).alloc (.cells #[.int .i64 0,.slice none 0 0,.slice none 0 0,.slice none 0 0] 28))
 have G:At W1 X [.int .i64 st,.slice a1 l.length c1,.slice a2 d.length c2,.slice a3 u.length c3]:=by rw [hW1];exact (At.new _ _ _ hX.symm rfl).alloc _
 have R:At W1 (X+1) [.int .i64 0,.slice none 0 0,.slice none 0 0,.slice none 0 0]:=by rw [hW1];exact At.new _ _ _ (by simp [hX]) rfl
 have b0:Below w.heap.size w W1:=by rw [hW1];exact qBl
 cases hv:bkOk ⟨⟨st,l⟩,d,u⟩
 · rw [zakr hv]
   go_enter Tryz.func17,Tryz.ntmps17
   go_wp2_with fail;rw [← hW1];clear hW1;refine (zaan _ _ _ _ _ _ st l d u _ hl hd hu (hs.below b0)).mono ?_;rintro e w1 ⟨rfl,k1⟩;rw [hv];replace R:=R.below k1;replace b0:=b0.trans (k1.mono b0.size);clear k1 G;obtain ⟨r0,r1,r2,r3,r4,r5⟩:=R.facts4;go_wp2_with fail
   obtain ⟨AE,oE,bE⟩:=zaap (v0:=.int .i64 0) (v1:=.slice none 0 0) (v2:=.slice none 0 0) (v3:=.slice none 0 0) (b:=zeroBk) (X:=X+1) (B:=X+1+1) qO qO qO R ⟨KOwn.nil,KOwn.nil,KOwn.nil,(fun k h=>by cases h),(fun k h=>by cases h),(fun k h=>by cases h)⟩ b0
   obtain ⟨f0,f1,f2,f3,f4,-⟩:=AE.facts4
   exact bodyPost_ret (v:=.tuple #[.agg #[.int .i64 0,.slice none 0 0,.slice none 0 0,.slice none 0 0],.bool false]) (by simp [results,Tryz.results17,go_sem,f1,f2,f3,f4]) rfl ⟨_,_,_,rfl,oE,bE⟩
 by_cases h0:d.length=0
 · rw [zaiy hv h0]
   have h01:((d.length:Int) - 1:Int) = -1:=qO;clear h0
   go_enter Tryz.func17,Tryz.ntmps17
   go_wp2_with fail;rw [← hW1];clear hW1;refine (zaan _ _ _ _ _ _ st l d u _ hl hd hu (hs.below b0)).mono ?_;rintro e w1 ⟨rfl,k1⟩;rw [hv];replace R:=R.below k1;replace G:=G.below k1;replace b0:=b0.trans (k1.mono b0.size);clear k1;obtain ⟨s0,s1,s2,s3,s4,-⟩:=G.facts4;go_wp2_with fail;refine (zab0 _ _ _ _ _ _ st l d u _ hl hd hu (hs.below b0)).mono ?_;rintro e w2 ⟨v1,v2,v3,rfl,o2,k2⟩;obtain ⟨x1,y1,x2,y2,x3,y3,rfl,rfl,rfl⟩:=o2.forms;have hR1:=R.lt;replace R:=R.below k2;replace G:=G.below k2;replace b0:=b0.trans (k2.mono b0.size);simp only at o2 ⊢;clear k2 s0 s1 s2 s3 s4;obtain ⟨s0,s1,s2,s3,s4,-⟩:=G.facts4;obtain ⟨r0,r1,r2,r3,r4,r5⟩:=R.facts4;go_wp2_with fail;obtain ⟨AE,oE,bE⟩:=zaap (v0:=.int .i64 st) (X:=X+1) qO qO qO R o2 b0;have AF:=AE.alloc (.cells #[.int .i64 st,.slice x1 l.length y1,.slice x2 d.length y2,.slice x3 u.length y3] 28);obtain ⟨f0,f1,f2,f3,f4,-⟩:=AF.facts4
   exact bodyPost_ret (v:=.tuple #[.agg #[.int .i64 st,.slice x1 l.length y1,.slice x2 d.length y2,.slice x3 u.length y3],.bool false]) (by simp [results,Tryz.results17,go_sem,f1,f2,f3,f4]) rfl ⟨_,_,_,rfl,oE.alloc _,bE.alloc bE.size _⟩
 · obtain ⟨n,hn⟩:∃ n,d.length=n+1:=⟨d.length - 1,by omega⟩
   rw [zaiz (n:=n) hv hn];obtain ⟨hlen1,hlen2⟩:=zab1 hv;simp only at hlen1 hlen2;have h01:((d.length:Int) - 1:Int)=(n:Int):=qO;have HN:=Lib.hid hn;clear hn h0
   go_enter Tryz.func17,Tryz.ntmps17
   go_wp2_with fail;rw [← hW1];clear hW1;refine (zaan _ _ _ _ _ _ st l d u _ hl hd hu (hs.below b0)).mono ?_;rintro e w1 ⟨rfl,k1⟩;rw [hv];replace R:=R.below k1;replace G:=G.below k1;replace b0:=b0.trans (k1.mono b0.size);clear k1;obtain ⟨s0,s1,s2,s3,s4,-⟩:=G.facts4;go_wp2_with fail;refine (zab0 _ _ _ _ _ _ st l d u _ hl hd hu (hs.below b0)).mono ?_;rintro e w2 ⟨v1,v2,v3,rfl,o2,k2⟩;obtain ⟨x1,y1,x2,y2,x3,y3,rfl,rfl,rfl⟩:=o2.forms;have hR1:=R.lt;have hk2:=k2.size;have hb1:=b0.size;replace R:=R.below k2;replace G:=G.below k2;replace b0:=b0.trans (k2.mono b0.size);simp only at o2 ⊢;clear k2 s0 s1 s2 s3 s4;obtain ⟨s0,s1,s2,s3,s4,-⟩:=G.facts4;go_upto_region 7 with fail;obtain ⟨Y,hY⟩:=qN (w2.heap.size);obtain ⟨V,hV⟩:=qM (w2.alloc (.cells #[.int .i64 st,.slice x1 l.length y1,.slice x2 d.length y2,.slice x3 u.length y3] 28))
   have c:Below w2.heap.size w2 V:=by rw [hV];exact qBl
   have AY:At V Y [.int .i64 st,.slice x1 l.length y1,.slice x2 d.length y2,.slice x3 u.length y3]:=by rw [hV];exact At.new _ _ _ hY.symm rfl
   have neY:∀ k,bkBlk (.slice x1 l.length y1) (.slice x2 d.length y2) (.slice x3 u.length y3) k→k≠Y:=fun k hk=>by have:=(o2.blk hk).2;omega
   rw [hY,← hV]
   have hRY:X+1<Y:=by have:=R.lt;omega
   have h1Y:w1.heap.size≤Y:=by rw [← hY];exact hk2
   replace R:=R.below c;replace G:=G.below c;replace o2:=o2.below c;replace b0:=b0.trans (c.mono b0.size);clear c hV hY s0 s1 s2 s3 s4 hk2;have hrd:Dds V a2 d:=(hs.d.below b0);obtain ⟨b,off,rfl,hbw,m0,m1,m2,m3,m4,m5,m6⟩:=Dds.at hrd (k:=n) (by rw [HN.out];omega);clear hrd;obtain ⟨s0,s1,s2,s3,s4,-⟩:=G.facts4;obtain ⟨t0,t1,t2,t3,t4,t5⟩:=AY.facts4
   have hnl:(n:Int)<(d.length:Int):=by rw [HN.out];omega
   have hnl2:n<d.length:=by rw [HN.out];omega
   have hY0:=AY.lt
   have hYo:∀ k,(Value.slice x3 u.length y3).ownBlock=some k→k≠Y:=fun k hk=>neY k (.inr (.inr hk))
   have hXo:∀ k,(Value.slice x3 u.length y3).ownBlock=some k→k≠X+1:=fun k hk=>by have:=(o2.u.lt hk).1;omega
   have hny:d.length≤y2:=o2.d.caps.1;have hny2:n≤y2:=qO;have hlz:(u ++ [nth d n]).length=u.length+1:=qP;have HLZ:=Lib.hid hlz;clear hlz
   go_region_law (refine zac8 ddI (.tmp 20) (.tmp 26) (by rfl) (by rfl) w1.heap.size _ u [nth d n] (u ++ [nth d n]) rfl 1 rfl (u.length+1) HLZ.out (some ⟨V.heap.size,0,none⟩) 1 (by rfl) ((o2.u).below (by repeat (first|exact Below.refl _ _|refine Below.drew ?_|refine Below.alloc ?_ qSo _))) (by rfl) (zaem _ _ _) qO qP qSo ?_;rintro av5 cv5 w5 o5 g5 b5 p5;have eY:=(g5.block Y qSo (fun e=>hYo _ e.symm rfl)).trans (Deep.blk_alloc_lt V _ Y hY0);have AY5:=AY.block eY;obtain ⟨q0,q1,q2,q3,q4,q5⟩:=AY5.facts4)
   all_goals
    have eX:=(g5.block (X+1) qSo (fun e=>hXo _ e.symm rfl)).trans (Deep.blk_alloc_lt V _ (X+1) qO)
    have R5:=R.block eX
    have r5:Wr (fun k=>(Value.slice x3 u.length y3).ownBlock=some k) V w5:=Wr.trans (Wr.ofBelow (by repeat (first|exact Below.refl _ _|refine Below.drew ?_|refine Below.alloc ?_ qSo _))) (Wr.ofGrown g5 (fun k hk=>hk))
    have lw:=KOwn.wr o2.l r5 (fun j hj h=>o2.ne13 j hj h)
    have sw:=KOwn.wr o2.d r5 (fun j hj h=>o2.ne23 j hj h)
    have n1:∀ k,(Value.slice x1 l.length y1).ownBlock=some k→(Value.slice av5 (u.length+1) cv5).ownBlock≠some k:=fun k h1 h2=>by
     rcases p5 k h2 with h|h
     · exact o2.ne13 k h1 h
     · have:=(o2.l.lt h1).2;have h':=h;(try simp at h');omega
    have n2:∀ k,(Value.slice x2 d.length y2).ownBlock=some k→(Value.slice av5 (u.length+1) cv5).ownBlock≠some k:=fun k h1 h2=>by
     rcases p5 k h2 with h|h
     · exact o2.ne23 k h1 h
     · have:=(o2.d.lt h1).2;have h':=h;(try simp at h');omega
    have hne5:∀ k,(Value.slice av5 (u.length+1) cv5).ownBlock=some k→k≠Y:=fun k h2=>by
     rcases p5 k h2 with h|h
     · exact hYo k h
     · have h':=h;(try simp at h');omega
    have bw:=b0.trans (r5.below b0.size fun k hk=>by have:=(o2.u.lt hk).1;omega)
    have A6:=AY5.set 3 (.slice av5 (u.length+1) cv5);have R6:=R5.setOther (p:=⟨Y,3,none⟩) (by show X+1≠Y;omega) (.slice av5 (u.length+1) cv5)
    have l6:=lw.setOther (p:=⟨Y,3,none⟩) (fun e=>neY Y (.inl e) rfl) (.slice av5 (u.length+1) cv5)
    have s6:=sw.setOther (p:=⟨Y,3,none⟩) (fun e=>neY Y (.inr (.inl e)) rfl) (.slice av5 (u.length+1) cv5)
    have d6:=o5.setOther (p:=⟨Y,3,none⟩) (fun e=>hne5 Y e rfl) (.slice av5 (u.length+1) cv5)
    have b6:=bw.setCell (p:=⟨Y,3,none⟩) (by show _≤Y;omega) (.slice av5 (u.length+1) cv5);clear q0 q1 q2 q3 q4 q5 s0 s1 s2 s3 s4 t0 t1 t2 t3 t4 t5 m0 m1 m2 m3 m4 m5 m6 eX eY r5 lw sw R5 AY5 bw b5 g5 o5;have A7:At (w5.setCell ⟨Y,3,none⟩ (.slice av5 (u.length+1) cv5)) Y [.int .i64 st,.slice x1 l.length y1,.slice x2 d.length y2,.slice av5 (u.length+1) cv5]:=A6;clear A6;generalize w5.setCell ⟨Y,3,none⟩ (.slice av5 (u.length+1) cv5)=w6 at A7 R6 l6 s6 d6 b6 ⊢;obtain ⟨q0,q1,q2,q3,q4,q5⟩:=A7.facts4;obtain ⟨r0,r1,r2,r3,r4,r6⟩:=R6.facts4;have hXY:X+1≠Y:=qO;go_wp2_with fail;have R8:=R6.setOther (p:=⟨Y,2,none⟩) hXY (.slice x2 n y2)
    have l8:=l6.setOther (p:=⟨Y,2,none⟩) (fun e=>neY Y (.inl e) rfl) (.slice x2 n y2)
    have s8:=(s6.cut n qO).setOther (p:=⟨Y,2,none⟩) (fun e=>neY Y (.inr (.inl ((zaat _ _ _ _ _).trans e))) rfl) (.slice x2 n y2)
    have d8:=d6.setOther (p:=⟨Y,2,none⟩) (fun e=>hne5 Y e rfl) (.slice x2 n y2)
    have b8:=b6.setCell (p:=⟨Y,2,none⟩) (by show _≤Y;omega) (.slice x2 n y2)
    obtain ⟨AE,oE,bE⟩:=zaap (v0:=.int .i64 st) (X:=X+1) (B:=w1.heap.size) (b:=⟨⟨st,l⟩,d.take n,u ++ [nth d n]⟩) qO qO qO R8 ⟨l8,s8,d8,(fun k h1 h2=>o2.ne12 k h1 ((zaat _ _ _ _ _).trans h2)),n1,(fun k h1 h2=>n2 k ((zaat _ _ _ _ _).trans h1) h2)⟩ b8
    obtain ⟨f0,f1,f2,f3,f4,-⟩:=AE.facts4
    exact bodyPost_ret (v:=.tuple #[.agg #[.int .i64 st,.slice x1 l.length y1,.slice x2 n y2,.slice av5 (u.length+1) cv5],.bool true]) (by simp [results,Tryz.results17,go_sem,f1,f2,f3,f4]) rfl ⟨_,_,_,rfl,oE,bE⟩
theorem zaha (a1 a2 a3:Option Addr) (c1 c2 c3:Nat) (st:Int) (l:List Lg) (d u:List Dd) (w:World) (hl:l.length≤1048576) (hd:d.length≤1048576) (hu:u.length≤1048576) (hs:RdB w a1 a2 a3 ⟨⟨st,l⟩,d,u⟩) :
 Calls Tryz.prog 58 #[.agg #[.int .i64 st,.slice a1 l.length c1,.slice a2 d.length c2,.slice a3 u.length c3]] w (BkOut (bkUndo ⟨⟨st,l⟩,d,u⟩) w):=by
 obtain ⟨X,hX⟩:=qN (w.heap.size);obtain ⟨W1,hW1⟩:=qM ((w.alloc (.cells #[.int .i64 st,.slice a1 l.length c1,.slice a2 d.length c2,.slice a3 u.length c3] 28)).alloc (.cells #[.int .i64 0,.slice none 0 0,.slice none 0 0,.slice none 0 0] 28))
 have G:At W1 X [.int .i64 st,.slice a1 l.length c1,.slice a2 d.length c2,.slice a3 u.length c3]:=by rw [hW1];exact (At.new _ _ _ hX.symm rfl).alloc _
 have R:At W1 (X+1) [.int .i64 0,.slice none 0 0,.slice none 0 0,.slice none 0 0]:=by rw [hW1];exact At.new _ _ _ (by simp [hX]) rfl
 have b0:Below w.heap.size w W1:=by rw [hW1];exact qBl
 cases hv:bkOk ⟨⟨st,l⟩,d,u⟩
 · rw [zakr hv]
   go_enter Tryz.func58,Tryz.ntmps58
   go_wp2_with fail;rw [← hW1];clear hW1;refine (zaak _ _ _ _ _ _ st l d u _ hl hd hu (hs.below b0)).mono ?_;rintro e w1 ⟨rfl,k1⟩;rw [hv];replace R:=R.below k1;replace b0:=b0.trans (k1.mono b0.size);clear k1 G;obtain ⟨r0,r1,r2,r3,r4,r5⟩:=R.facts4;go_wp2_with fail
   obtain ⟨AE,oE,bE⟩:=zaap (v0:=.int .i64 0) (v1:=.slice none 0 0) (v2:=.slice none 0 0) (v3:=.slice none 0 0) (b:=zeroBk) (X:=X+1) (B:=X+1+1) qO qO qO R ⟨KOwn.nil,KOwn.nil,KOwn.nil,(fun k h=>by cases h),(fun k h=>by cases h),(fun k h=>by cases h)⟩ b0
   obtain ⟨f0,f1,f2,f3,f4,-⟩:=AE.facts4
   exact bodyPost_ret (v:=.tuple #[.agg #[.int .i64 0,.slice none 0 0,.slice none 0 0,.slice none 0 0],.bool false]) (by simp [results,Tryz.results58,go_sem,f1,f2,f3,f4]) rfl ⟨_,_,_,rfl,oE,bE⟩
 by_cases h0:d.length=0
 · rw [zaiy hv h0]
   have h01:((d.length:Int) - 1:Int) = -1:=qO;clear h0
   go_enter Tryz.func58,Tryz.ntmps58
   go_wp2_with fail;rw [← hW1];clear hW1;refine (zaak _ _ _ _ _ _ st l d u _ hl hd hu (hs.below b0)).mono ?_;rintro e w1 ⟨rfl,k1⟩;rw [hv];replace R:=R.below k1;replace G:=G.below k1;replace b0:=b0.trans (k1.mono b0.size);clear k1;obtain ⟨s0,s1,s2,s3,s4,-⟩:=G.facts4;go_wp2_with fail;refine (zabw _ _ _ _ _ _ st l d u _ hl hd hu (hs.below b0)).mono ?_;rintro e w2 ⟨v1,v2,v3,rfl,o2,k2⟩;obtain ⟨x1,y1,x2,y2,x3,y3,rfl,rfl,rfl⟩:=o2.forms;have hR1:=R.lt;replace R:=R.below k2;replace G:=G.below k2;replace b0:=b0.trans (k2.mono b0.size);simp only at o2 ⊢;clear k2 s0 s1 s2 s3 s4;obtain ⟨s0,s1,s2,s3,s4,-⟩:=G.facts4;obtain ⟨r0,r1,r2,r3,r4,r5⟩:=R.facts4;go_wp2_with fail;obtain ⟨AE,oE,bE⟩:=zaap (v0:=.int .i64 st) (X:=X+1) qO qO qO R o2 b0;have AF:=AE.alloc (.cells #[.int .i64 st,.slice x1 l.length y1,.slice x2 d.length y2,.slice x3 u.length y3] 28);obtain ⟨f0,f1,f2,f3,f4,-⟩:=AF.facts4
   exact bodyPost_ret (v:=.tuple #[.agg #[.int .i64 st,.slice x1 l.length y1,.slice x2 d.length y2,.slice x3 u.length y3],.bool false]) (by simp [results,Tryz.results58,go_sem,f1,f2,f3,f4]) rfl ⟨_,_,_,rfl,oE.alloc _,bE.alloc bE.size _⟩
 · obtain ⟨n,hn⟩:∃ n,d.length=n+1:=⟨d.length - 1,by omega⟩
   rw [zaiz (n:=n) hv hn];obtain ⟨hlen1,hlen2⟩:=zab1 hv;simp only at hlen1 hlen2;have h01:((d.length:Int) - 1:Int)=(n:Int):=qO;have HN:=Lib.hid hn;clear hn h0
   go_enter Tryz.func58,Tryz.ntmps58
   go_wp2_with fail;rw [← hW1];clear hW1;refine (zaak _ _ _ _ _ _ st l d u _ hl hd hu (hs.below b0)).mono ?_;rintro e w1 ⟨rfl,k1⟩;rw [hv];replace R:=R.below k1;replace G:=G.below k1;replace b0:=b0.trans (k1.mono b0.size);clear k1;obtain ⟨s0,s1,s2,s3,s4,-⟩:=G.facts4;go_wp2_with fail;refine (zabw _ _ _ _ _ _ st l d u _ hl hd hu (hs.below b0)).mono ?_;rintro e w2 ⟨v1,v2,v3,rfl,o2,k2⟩;obtain ⟨x1,y1,x2,y2,x3,y3,rfl,rfl,rfl⟩:=o2.forms;have hR1:=R.lt;have hk2:=k2.size;have hb1:=b0.size;replace R:=R.below k2;replace G:=G.below k2;replace b0:=b0.trans (k2.mono b0.size);simp only at o2 ⊢;clear k2 s0 s1 s2 s3 s4;obtain ⟨s0,s1,s2,s3,s4,-⟩:=G.facts4;go_upto_region 7 with fail;obtain ⟨Y,hY⟩:=qN (w2.heap.size);obtain ⟨V,hV⟩:=qM (w2.alloc (.cells #[.int .i64 st,.slice x1 l.length y1,.slice x2 d.length y2,.slice x3 u.length y3] 28))
   have c:Below w2.heap.size w2 V:=by rw [hV];exact qBl
   have AY:At V Y [.int .i64 st,.slice x1 l.length y1,.slice x2 d.length y2,.slice x3 u.length y3]:=by rw [hV];exact At.new _ _ _ hY.symm rfl
   have neY:∀ k,bkBlk (.slice x1 l.length y1) (.slice x2 d.length y2) (.slice x3 u.length y3) k→k≠Y:=fun k hk=>by have:=(o2.blk hk).2;omega
   rw [hY,← hV]
   have hRY:X+1<Y:=by have:=R.lt;omega
   have h1Y:w1.heap.size≤Y:=by rw [← hY];exact hk2
   replace R:=R.below c;replace G:=G.below c;replace o2:=o2.below c;replace b0:=b0.trans (c.mono b0.size);clear c hV hY s0 s1 s2 s3 s4 hk2;have hrd:Dds V a2 d:=(hs.d.below b0);obtain ⟨b,off,rfl,hbw,m0,m1,m2,m3,m4,m5,m6⟩:=Dds.at hrd (k:=n) (by rw [HN.out];omega);clear hrd;obtain ⟨s0,s1,s2,s3,s4,-⟩:=G.facts4;obtain ⟨t0,t1,t2,t3,t4,t5⟩:=AY.facts4
   have hnl:(n:Int)<(d.length:Int):=by rw [HN.out];omega
   have hnl2:n<d.length:=by rw [HN.out];omega
   have hY0:=AY.lt
   have hYo:∀ k,(Value.slice x3 u.length y3).ownBlock=some k→k≠Y:=fun k hk=>neY k (.inr (.inr hk))
   have hXo:∀ k,(Value.slice x3 u.length y3).ownBlock=some k→k≠X+1:=fun k hk=>by have:=(o2.u.lt hk).1;omega
   have hny:d.length≤y2:=o2.d.caps.1;have hny2:n≤y2:=qO;have hlz:(u ++ [nth d n]).length=u.length+1:=qP;have HLZ:=Lib.hid hlz;clear hlz
   go_region_law (refine zac8 ddI (.tmp 20) (.tmp 26) (by rfl) (by rfl) w1.heap.size _ u [nth d n] (u ++ [nth d n]) rfl 1 rfl (u.length+1) HLZ.out (some ⟨V.heap.size,0,none⟩) 1 (by rfl) ((o2.u).below (by repeat (first|exact Below.refl _ _|refine Below.drew ?_|refine Below.alloc ?_ qSo _))) (by rfl) (zaem _ _ _) qO qP qSo ?_;rintro av5 cv5 w5 o5 g5 b5 p5;have eY:=(g5.block Y qSo (fun e=>hYo _ e.symm rfl)).trans (Deep.blk_alloc_lt V _ Y hY0);have AY5:=AY.block eY;obtain ⟨q0,q1,q2,q3,q4,q5⟩:=AY5.facts4)
   all_goals
    have eX:=(g5.block (X+1) qSo (fun e=>hXo _ e.symm rfl)).trans (Deep.blk_alloc_lt V _ (X+1) qO)
    have R5:=R.block eX
    have r5:Wr (fun k=>(Value.slice x3 u.length y3).ownBlock=some k) V w5:=Wr.trans (Wr.ofBelow (by repeat (first|exact Below.refl _ _|refine Below.drew ?_|refine Below.alloc ?_ qSo _))) (Wr.ofGrown g5 (fun k hk=>hk))
    have lw:=KOwn.wr o2.l r5 (fun j hj h=>o2.ne13 j hj h)
    have sw:=KOwn.wr o2.d r5 (fun j hj h=>o2.ne23 j hj h)
    have n1:∀ k,(Value.slice x1 l.length y1).ownBlock=some k→(Value.slice av5 (u.length+1) cv5).ownBlock≠some k:=fun k h1 h2=>by
     rcases p5 k h2 with h|h
     · exact o2.ne13 k h1 h
     · have:=(o2.l.lt h1).2;have h':=h;(try simp at h');omega
    have n2:∀ k,(Value.slice x2 d.length y2).ownBlock=some k→(Value.slice av5 (u.length+1) cv5).ownBlock≠some k:=fun k h1 h2=>by
     rcases p5 k h2 with h|h
     · exact o2.ne23 k h1 h
     · have:=(o2.d.lt h1).2;have h':=h;(try simp at h');omega
    have hne5:∀ k,(Value.slice av5 (u.length+1) cv5).ownBlock=some k→k≠Y:=fun k h2=>by
     rcases p5 k h2 with h|h
     · exact hYo k h
     · have h':=h;(try simp at h');omega
    have bw:=b0.trans (r5.below b0.size fun k hk=>by have:=(o2.u.lt hk).1;omega)
    have A6:=AY5.set 3 (.slice av5 (u.length+1) cv5);have R6:=R5.setOther (p:=⟨Y,3,none⟩) (by show X+1≠Y;omega) (.slice av5 (u.length+1) cv5)
    have l6:=lw.setOther (p:=⟨Y,3,none⟩) (fun e=>neY Y (.inl e) rfl) (.slice av5 (u.length+1) cv5)
    have s6:=sw.setOther (p:=⟨Y,3,none⟩) (fun e=>neY Y (.inr (.inl e)) rfl) (.slice av5 (u.length+1) cv5)
    have d6:=o5.setOther (p:=⟨Y,3,none⟩) (fun e=>hne5 Y e rfl) (.slice av5 (u.length+1) cv5)
    have b6:=bw.setCell (p:=⟨Y,3,none⟩) (by show _≤Y;omega) (.slice av5 (u.length+1) cv5);clear q0 q1 q2 q3 q4 q5 s0 s1 s2 s3 s4 t0 t1 t2 t3 t4 t5 m0 m1 m2 m3 m4 m5 m6 eX eY r5 lw sw R5 AY5 bw b5 g5 o5;have A7:At (w5.setCell ⟨Y,3,none⟩ (.slice av5 (u.length+1) cv5)) Y [.int .i64 st,.slice x1 l.length y1,.slice x2 d.length y2,.slice av5 (u.length+1) cv5]:=A6;clear A6;generalize w5.setCell ⟨Y,3,none⟩ (.slice av5 (u.length+1) cv5)=w6 at A7 R6 l6 s6 d6 b6 ⊢;obtain ⟨q0,q1,q2,q3,q4,q5⟩:=A7.facts4;obtain ⟨r0,r1,r2,r3,r4,r6⟩:=R6.facts4;have hXY:X+1≠Y:=qO;go_wp2_with fail;have R8:=R6.setOther (p:=⟨Y,2,none⟩) hXY (.slice x2 n y2)
    have l8:=l6.setOther (p:=⟨Y,2,none⟩) (fun e=>neY Y (.inl e) rfl) (.slice x2 n y2)
    have s8:=(s6.cut n qO).setOther (p:=⟨Y,2,none⟩) (fun e=>neY Y (.inr (.inl ((zaat _ _ _ _ _).trans e))) rfl) (.slice x2 n y2)
    have d8:=d6.setOther (p:=⟨Y,2,none⟩) (fun e=>hne5 Y e rfl) (.slice x2 n y2)
    have b8:=b6.setCell (p:=⟨Y,2,none⟩) (by show _≤Y;omega) (.slice x2 n y2)
    obtain ⟨AE,oE,bE⟩:=zaap (v0:=.int .i64 st) (X:=X+1) (B:=w1.heap.size) (b:=⟨⟨st,l⟩,d.take n,u ++ [nth d n]⟩) qO qO qO R8 ⟨l8,s8,d8,(fun k h1 h2=>o2.ne12 k h1 ((zaat _ _ _ _ _).trans h2)),n1,(fun k h1 h2=>n2 k ((zaat _ _ _ _ _).trans h1) h2)⟩ b8
    obtain ⟨f0,f1,f2,f3,f4,-⟩:=AE.facts4
    exact bodyPost_ret (v:=.tuple #[.agg #[.int .i64 st,.slice x1 l.length y1,.slice x2 n y2,.slice av5 (u.length+1) cv5],.bool true]) (by simp [results,Tryz.results58,go_sem,f1,f2,f3,f4]) rfl ⟨_,_,_,rfl,oE,bE⟩
theorem zapt (a1 a2 a3:Option Addr) (c1 c2 c3:Nat) (st:Int) (l:List Lg) (d u:List Dd) (w:World) (hl:l.length≤1048576) (hd:d.length≤1048576) (hu:u.length≤1048576) (hs:RdB w a1 a2 a3 ⟨⟨st,l⟩,d,u⟩) :
 Calls Tryz.prog 65 #[.agg #[.int .i64 st,.slice a1 l.length c1,.slice a2 d.length c2,.slice a3 u.length c3]] w (BkOut (bkRedo ⟨⟨st,l⟩,d,u⟩) w):=by
 obtain ⟨X,hX⟩:=qN (w.heap.size);obtain ⟨W1,hW1⟩:=qM ((w.alloc (.cells #[.int .i64 st,.slice a1 l.length c1,.slice a2 d.length c2,.slice a3 u.length c3] 28)).alloc (.cells #[.int .i64 0,.slice none 0 0,.slice none 0 0,.slice none 0 0] 28))
 have G:At W1 X [.int .i64 st,.slice a1 l.length c1,.slice a2 d.length c2,.slice a3 u.length c3]:=by rw [hW1];exact (At.new _ _ _ hX.symm rfl).alloc _
 have R:At W1 (X+1) [.int .i64 0,.slice none 0 0,.slice none 0 0,.slice none 0 0]:=by rw [hW1];exact At.new _ _ _ (by simp [hX]) rfl
 have b0:Below w.heap.size w W1:=by rw [hW1];exact qBl
 cases hv:bkOk ⟨⟨st,l⟩,d,u⟩
 · rw [zaks hv]
   go_enter Tryz.func65,Tryz.ntmps65
   go_wp2_with fail;rw [← hW1];clear hW1;refine (zaan _ _ _ _ _ _ st l d u _ hl hd hu (hs.below b0)).mono ?_;rintro e w1 ⟨rfl,k1⟩;rw [hv];replace R:=R.below k1;replace b0:=b0.trans (k1.mono b0.size);clear k1 G;obtain ⟨r0,r1,r2,r3,r4,r5⟩:=R.facts4;go_wp2_with fail
   obtain ⟨AE,oE,bE⟩:=zaap (v0:=.int .i64 0) (v1:=.slice none 0 0) (v2:=.slice none 0 0) (v3:=.slice none 0 0) (b:=zeroBk) (X:=X+1) (B:=X+1+1) qO qO qO R ⟨KOwn.nil,KOwn.nil,KOwn.nil,(fun k h=>by cases h),(fun k h=>by cases h),(fun k h=>by cases h)⟩ b0
   obtain ⟨f0,f1,f2,f3,f4,-⟩:=AE.facts4
   exact bodyPost_ret (v:=.tuple #[.agg #[.int .i64 0,.slice none 0 0,.slice none 0 0,.slice none 0 0],.bool false]) (by simp [results,Tryz.results65,go_sem,f1,f2,f3,f4]) rfl ⟨_,_,_,rfl,oE,bE⟩
 by_cases h0:u.length=0
 · rw [zai0 hv h0]
   have h01:((u.length:Int) - 1:Int) = -1:=qO;clear h0
   go_enter Tryz.func65,Tryz.ntmps65
   go_wp2_with fail;rw [← hW1];clear hW1;refine (zaan _ _ _ _ _ _ st l d u _ hl hd hu (hs.below b0)).mono ?_;rintro e w1 ⟨rfl,k1⟩;rw [hv];replace R:=R.below k1;replace G:=G.below k1;replace b0:=b0.trans (k1.mono b0.size);clear k1;obtain ⟨s0,s1,s2,s3,s4,-⟩:=G.facts4;go_wp2_with fail;refine (zab0 _ _ _ _ _ _ st l d u _ hl hd hu (hs.below b0)).mono ?_;rintro e w2 ⟨v1,v2,v3,rfl,o2,k2⟩;obtain ⟨x1,y1,x2,y2,x3,y3,rfl,rfl,rfl⟩:=o2.forms;have hR1:=R.lt;replace R:=R.below k2;replace G:=G.below k2;replace b0:=b0.trans (k2.mono b0.size);simp only at o2 ⊢;clear k2 s0 s1 s2 s3 s4;obtain ⟨s0,s1,s2,s3,s4,-⟩:=G.facts4;obtain ⟨r0,r1,r2,r3,r4,r5⟩:=R.facts4;go_wp2_with fail;obtain ⟨AE,oE,bE⟩:=zaap (v0:=.int .i64 st) (X:=X+1) qO qO qO R o2 b0;have AF:=AE.alloc (.cells #[.int .i64 st,.slice x1 l.length y1,.slice x2 d.length y2,.slice x3 u.length y3] 28);obtain ⟨f0,f1,f2,f3,f4,-⟩:=AF.facts4
   exact bodyPost_ret (v:=.tuple #[.agg #[.int .i64 st,.slice x1 l.length y1,.slice x2 d.length y2,.slice x3 u.length y3],.bool false]) (by simp [results,Tryz.results65,go_sem,f1,f2,f3,f4]) rfl ⟨_,_,_,rfl,oE.alloc _,bE.alloc bE.size _⟩
 · obtain ⟨n,hn⟩:∃ n,u.length=n+1:=⟨u.length - 1,by omega⟩
   rw [zai1 (n:=n) hv hn];obtain ⟨hlen1,hlen2⟩:=zab1 hv;simp only at hlen1 hlen2;have h01:((u.length:Int) - 1:Int)=(n:Int):=qO;have HN:=Lib.hid hn;clear hn h0
   go_enter Tryz.func65,Tryz.ntmps65
   go_wp2_with fail;rw [← hW1];clear hW1;refine (zaan _ _ _ _ _ _ st l d u _ hl hd hu (hs.below b0)).mono ?_;rintro e w1 ⟨rfl,k1⟩;rw [hv];replace R:=R.below k1;replace G:=G.below k1;replace b0:=b0.trans (k1.mono b0.size);clear k1;obtain ⟨s0,s1,s2,s3,s4,-⟩:=G.facts4;go_wp2_with fail;refine (zab0 _ _ _ _ _ _ st l d u _ hl hd hu (hs.below b0)).mono ?_;rintro e w2 ⟨v1,v2,v3,rfl,o2,k2⟩;obtain ⟨x1,y1,x2,y2,x3,y3,rfl,rfl,rfl⟩:=o2.forms;have hR1:=R.lt;have hk2:=k2.size;have hb1:=b0.size;replace R:=R.below k2;replace G:=G.below k2;replace b0:=b0.trans (k2.mono b0.size);simp only at o2 ⊢;clear k2 s0 s1 s2 s3 s4;obtain ⟨s0,s1,s2,s3,s4,-⟩:=G.facts4;go_upto_region 7 with fail;obtain ⟨Y,hY⟩:=qN (w2.heap.size);obtain ⟨V,hV⟩:=qM (w2.alloc (.cells #[.int .i64 st,.slice x1 l.length y1,.slice x2 d.length y2,.slice x3 u.length y3] 28))
   have c:Below w2.heap.size w2 V:=by rw [hV];exact qBl
   have AY:At V Y [.int .i64 st,.slice x1 l.length y1,.slice x2 d.length y2,.slice x3 u.length y3]:=by rw [hV];exact At.new _ _ _ hY.symm rfl
   have neY:∀ k,bkBlk (.slice x1 l.length y1) (.slice x2 d.length y2) (.slice x3 u.length y3) k→k≠Y:=fun k hk=>by have:=(o2.blk hk).2;omega
   rw [hY,← hV]
   have hRY:X+1<Y:=by have:=R.lt;omega
   have h1Y:w1.heap.size≤Y:=by rw [← hY];exact hk2
   replace R:=R.below c;replace G:=G.below c;replace o2:=o2.below c;replace b0:=b0.trans (c.mono b0.size);clear c hV hY s0 s1 s2 s3 s4 hk2;have hrd:Dds V a3 u:=(hs.u.below b0);obtain ⟨b,off,rfl,hbw,m0,m1,m2,m3,m4,m5,m6⟩:=Dds.at hrd (k:=n) (by rw [HN.out];omega);clear hrd;obtain ⟨s0,s1,s2,s3,s4,-⟩:=G.facts4;obtain ⟨t0,t1,t2,t3,t4,t5⟩:=AY.facts4
   have hnl:(n:Int)<(u.length:Int):=by rw [HN.out];omega
   have hnl2:n<u.length:=by rw [HN.out];omega
   have hY0:=AY.lt
   have hYo:∀ k,(Value.slice x2 d.length y2).ownBlock=some k→k≠Y:=fun k hk=>neY k (.inr (.inl hk))
   have hXo:∀ k,(Value.slice x2 d.length y2).ownBlock=some k→k≠X+1:=fun k hk=>by have:=(o2.d.lt hk).1;omega
   have hny:u.length≤y3:=o2.u.caps.1;have hny2:n≤y3:=qO;have hlz:(d ++ [nth u n]).length=d.length+1:=qP;have HLZ:=Lib.hid hlz;clear hlz
   go_region_law (refine zac8 ddI (.tmp 20) (.tmp 26) (by rfl) (by rfl) w1.heap.size _ d [nth u n] (d ++ [nth u n]) rfl 1 rfl (d.length+1) HLZ.out (some ⟨V.heap.size,0,none⟩) 1 (by rfl) ((o2.d).below (by repeat (first|exact Below.refl _ _|refine Below.drew ?_|refine Below.alloc ?_ qSo _))) (by rfl) (zaem _ _ _) qO qP qSo ?_;rintro av5 cv5 w5 o5 g5 b5 p5;have eY:=(g5.block Y qSo (fun e=>hYo _ e.symm rfl)).trans (Deep.blk_alloc_lt V _ Y hY0);have AY5:=AY.block eY;obtain ⟨q0,q1,q2,q3,q4,q5⟩:=AY5.facts4)
   all_goals
    have eX:=(g5.block (X+1) qSo (fun e=>hXo _ e.symm rfl)).trans (Deep.blk_alloc_lt V _ (X+1) qO)
    have R5:=R.block eX
    have r5:Wr (fun k=>(Value.slice x2 d.length y2).ownBlock=some k) V w5:=Wr.trans (Wr.ofBelow (by repeat (first|exact Below.refl _ _|refine Below.drew ?_|refine Below.alloc ?_ qSo _))) (Wr.ofGrown g5 (fun k hk=>hk))
    have lw:=KOwn.wr o2.l r5 (fun j hj h=>o2.ne12 j hj h)
    have sw:=KOwn.wr o2.u r5 (fun j hj h=>o2.ne23 j h hj)
    have n1:∀ k,(Value.slice x1 l.length y1).ownBlock=some k→(Value.slice av5 (d.length+1) cv5).ownBlock≠some k:=fun k h1 h2=>by
     rcases p5 k h2 with h|h
     · exact o2.ne12 k h1 h
     · have:=(o2.l.lt h1).2;have h':=h;(try simp at h');omega
    have n2:∀ k,(Value.slice x3 u.length y3).ownBlock=some k→(Value.slice av5 (d.length+1) cv5).ownBlock≠some k:=fun k h1 h2=>by
     rcases p5 k h2 with h|h
     · exact o2.ne23 k h h1
     · have:=(o2.u.lt h1).2;have h':=h;(try simp at h');omega
    have hne5:∀ k,(Value.slice av5 (d.length+1) cv5).ownBlock=some k→k≠Y:=fun k h2=>by
     rcases p5 k h2 with h|h
     · exact hYo k h
     · have h':=h;(try simp at h');omega
    have bw:=b0.trans (r5.below b0.size fun k hk=>by have:=(o2.d.lt hk).1;omega)
    have A6:=AY5.set 2 (.slice av5 (d.length+1) cv5);have R6:=R5.setOther (p:=⟨Y,2,none⟩) (by show X+1≠Y;omega) (.slice av5 (d.length+1) cv5)
    have l6:=lw.setOther (p:=⟨Y,2,none⟩) (fun e=>neY Y (.inl e) rfl) (.slice av5 (d.length+1) cv5)
    have s6:=sw.setOther (p:=⟨Y,2,none⟩) (fun e=>neY Y (.inr (.inr e)) rfl) (.slice av5 (d.length+1) cv5)
    have d6:=o5.setOther (p:=⟨Y,2,none⟩) (fun e=>hne5 Y e rfl) (.slice av5 (d.length+1) cv5)
    have b6:=bw.setCell (p:=⟨Y,2,none⟩) (by show _≤Y;omega) (.slice av5 (d.length+1) cv5);clear q0 q1 q2 q3 q4 q5 s0 s1 s2 s3 s4 t0 t1 t2 t3 t4 t5 m0 m1 m2 m3 m4 m5 m6 eX eY r5 lw sw R5 AY5 bw b5 g5 o5;have A7:At (w5.setCell ⟨Y,2,none⟩ (.slice av5 (d.length+1) cv5)) Y [.int .i64 st,.slice x1 l.length y1,.slice av5 (d.length+1) cv5,.slice x3 u.length y3]:=A6;clear A6;generalize w5.setCell ⟨Y,2,none⟩ (.slice av5 (d.length+1) cv5)=w6 at A7 R6 l6 s6 d6 b6 ⊢;obtain ⟨q0,q1,q2,q3,q4,q5⟩:=A7.facts4;obtain ⟨r0,r1,r2,r3,r4,r6⟩:=R6.facts4;have hXY:X+1≠Y:=qO;go_wp2_with fail;have R8:=R6.setOther (p:=⟨Y,3,none⟩) hXY (.slice x3 n y3)
    have l8:=l6.setOther (p:=⟨Y,3,none⟩) (fun e=>neY Y (.inl e) rfl) (.slice x3 n y3)
    have s8:=(s6.cut n qO).setOther (p:=⟨Y,3,none⟩) (fun e=>neY Y (.inr (.inr ((zaat _ _ _ _ _).trans e))) rfl) (.slice x3 n y3)
    have d8:=d6.setOther (p:=⟨Y,3,none⟩) (fun e=>hne5 Y e rfl) (.slice x3 n y3)
    have b8:=b6.setCell (p:=⟨Y,3,none⟩) (by show _≤Y;omega) (.slice x3 n y3)
    obtain ⟨AE,oE,bE⟩:=zaap (v0:=.int .i64 st) (X:=X+1) (B:=w1.heap.size) (b:=⟨⟨st,l⟩,d ++ [nth u n],u.take n⟩) qO qO qO R8 ⟨l8,d8,s8,n1,(fun k h1 h2=>o2.ne13 k h1 ((zaat _ _ _ _ _).trans h2)),(fun k h1 h2=>n2 k ((zaat _ _ _ _ _).trans h2) h1)⟩ b8
    obtain ⟨f0,f1,f2,f3,f4,-⟩:=AE.facts4
    exact bodyPost_ret (v:=.tuple #[.agg #[.int .i64 st,.slice x1 l.length y1,.slice av5 (d.length+1) cv5,.slice x3 n y3],.bool true]) (by simp [results,Tryz.results65,go_sem,f1,f2,f3,f4]) rfl ⟨_,_,_,rfl,oE,bE⟩
theorem zahb (a1 a2 a3:Option Addr) (c1 c2 c3:Nat) (st:Int) (l:List Lg) (d u:List Dd) (w:World) (hl:l.length≤1048576) (hd:d.length≤1048576) (hu:u.length≤1048576) (hs:RdB w a1 a2 a3 ⟨⟨st,l⟩,d,u⟩) :
 Calls Tryz.prog 59 #[.agg #[.int .i64 st,.slice a1 l.length c1,.slice a2 d.length c2,.slice a3 u.length c3]] w (BkOut (bkRedo ⟨⟨st,l⟩,d,u⟩) w):=by
 obtain ⟨X,hX⟩:=qN (w.heap.size);obtain ⟨W1,hW1⟩:=qM ((w.alloc (.cells #[.int .i64 st,.slice a1 l.length c1,.slice a2 d.length c2,.slice a3 u.length c3] 28)).alloc (.cells #[.int .i64 0,.slice none 0 0,.slice none 0 0,.slice none 0 0] 28))
 have G:At W1 X [.int .i64 st,.slice a1 l.length c1,.slice a2 d.length c2,.slice a3 u.length c3]:=by rw [hW1];exact (At.new _ _ _ hX.symm rfl).alloc _
 have R:At W1 (X+1) [.int .i64 0,.slice none 0 0,.slice none 0 0,.slice none 0 0]:=by rw [hW1];exact At.new _ _ _ (by simp [hX]) rfl
 have b0:Below w.heap.size w W1:=by rw [hW1];exact qBl
 cases hv:bkOk ⟨⟨st,l⟩,d,u⟩
 · rw [zaks hv]
   go_enter Tryz.func59,Tryz.ntmps59
   go_wp2_with fail;rw [← hW1];clear hW1;refine (zaak _ _ _ _ _ _ st l d u _ hl hd hu (hs.below b0)).mono ?_;rintro e w1 ⟨rfl,k1⟩;rw [hv];replace R:=R.below k1;replace b0:=b0.trans (k1.mono b0.size);clear k1 G;obtain ⟨r0,r1,r2,r3,r4,r5⟩:=R.facts4;go_wp2_with fail
   obtain ⟨AE,oE,bE⟩:=zaap (v0:=.int .i64 0) (v1:=.slice none 0 0) (v2:=.slice none 0 0) (v3:=.slice none 0 0) (b:=zeroBk) (X:=X+1) (B:=X+1+1) qO qO qO R ⟨KOwn.nil,KOwn.nil,KOwn.nil,(fun k h=>by cases h),(fun k h=>by cases h),(fun k h=>by cases h)⟩ b0
   obtain ⟨f0,f1,f2,f3,f4,-⟩:=AE.facts4
   exact bodyPost_ret (v:=.tuple #[.agg #[.int .i64 0,.slice none 0 0,.slice none 0 0,.slice none 0 0],.bool false]) (by simp [results,Tryz.results59,go_sem,f1,f2,f3,f4]) rfl ⟨_,_,_,rfl,oE,bE⟩
 by_cases h0:u.length=0
 · rw [zai0 hv h0]
   have h01:((u.length:Int) - 1:Int) = -1:=qO;clear h0
   go_enter Tryz.func59,Tryz.ntmps59
   go_wp2_with fail;rw [← hW1];clear hW1;refine (zaak _ _ _ _ _ _ st l d u _ hl hd hu (hs.below b0)).mono ?_;rintro e w1 ⟨rfl,k1⟩;rw [hv];replace R:=R.below k1;replace G:=G.below k1;replace b0:=b0.trans (k1.mono b0.size);clear k1;obtain ⟨s0,s1,s2,s3,s4,-⟩:=G.facts4;go_wp2_with fail;refine (zabw _ _ _ _ _ _ st l d u _ hl hd hu (hs.below b0)).mono ?_;rintro e w2 ⟨v1,v2,v3,rfl,o2,k2⟩;obtain ⟨x1,y1,x2,y2,x3,y3,rfl,rfl,rfl⟩:=o2.forms;have hR1:=R.lt;replace R:=R.below k2;replace G:=G.below k2;replace b0:=b0.trans (k2.mono b0.size);simp only at o2 ⊢;clear k2 s0 s1 s2 s3 s4;obtain ⟨s0,s1,s2,s3,s4,-⟩:=G.facts4;obtain ⟨r0,r1,r2,r3,r4,r5⟩:=R.facts4;go_wp2_with fail;obtain ⟨AE,oE,bE⟩:=zaap (v0:=.int .i64 st) (X:=X+1) qO qO qO R o2 b0;have AF:=AE.alloc (.cells #[.int .i64 st,.slice x1 l.length y1,.slice x2 d.length y2,.slice x3 u.length y3] 28);obtain ⟨f0,f1,f2,f3,f4,-⟩:=AF.facts4
   exact bodyPost_ret (v:=.tuple #[.agg #[.int .i64 st,.slice x1 l.length y1,.slice x2 d.length y2,.slice x3 u.length y3],.bool false]) (by simp [results,Tryz.results59,go_sem,f1,f2,f3,f4]) rfl ⟨_,_,_,rfl,oE.alloc _,bE.alloc bE.size _⟩
 · obtain ⟨n,hn⟩:∃ n,u.length=n+1:=⟨u.length - 1,by omega⟩
   rw [zai1 (n:=n) hv hn];obtain ⟨hlen1,hlen2⟩:=zab1 hv;simp only at hlen1 hlen2;have h01:((u.length:Int) - 1:Int)=(n:Int):=qO;have HN:=Lib.hid hn;clear hn h0
   go_enter Tryz.func59,Tryz.ntmps59
   go_wp2_with fail;rw [← hW1];clear hW1;refine (zaak _ _ _ _ _ _ st l d u _ hl hd hu (hs.below b0)).mono ?_;rintro e w1 ⟨rfl,k1⟩;rw [hv];replace R:=R.below k1;replace G:=G.below k1;replace b0:=b0.trans (k1.mono b0.size);clear k1;obtain ⟨s0,s1,s2,s3,s4,-⟩:=G.facts4;go_wp2_with fail;refine (zabw _ _ _ _ _ _ st l d u _ hl hd hu (hs.below b0)).mono ?_;rintro e w2 ⟨v1,v2,v3,rfl,o2,k2⟩;obtain ⟨x1,y1,x2,y2,x3,y3,rfl,rfl,rfl⟩:=o2.forms;have hR1:=R.lt;have hk2:=k2.size;have hb1:=b0.size;replace R:=R.below k2;replace G:=G.below k2;replace b0:=b0.trans (k2.mono b0.size);simp only at o2 ⊢;clear k2 s0 s1 s2 s3 s4;obtain ⟨s0,s1,s2,s3,s4,-⟩:=G.facts4;go_upto_region 7 with fail;obtain ⟨Y,hY⟩:=qN (w2.heap.size);obtain ⟨V,hV⟩:=qM (w2.alloc (.cells #[.int .i64 st,.slice x1 l.length y1,.slice x2 d.length y2,.slice x3 u.length y3] 28))
   have c:Below w2.heap.size w2 V:=by rw [hV];exact qBl
   have AY:At V Y [.int .i64 st,.slice x1 l.length y1,.slice x2 d.length y2,.slice x3 u.length y3]:=by rw [hV];exact At.new _ _ _ hY.symm rfl
   have neY:∀ k,bkBlk (.slice x1 l.length y1) (.slice x2 d.length y2) (.slice x3 u.length y3) k→k≠Y:=fun k hk=>by have:=(o2.blk hk).2;omega
   rw [hY,← hV]
   have hRY:X+1<Y:=by have:=R.lt;omega
   have h1Y:w1.heap.size≤Y:=by rw [← hY];exact hk2
   replace R:=R.below c;replace G:=G.below c;replace o2:=o2.below c;replace b0:=b0.trans (c.mono b0.size);clear c hV hY s0 s1 s2 s3 s4 hk2;have hrd:Dds V a3 u:=(hs.u.below b0);obtain ⟨b,off,rfl,hbw,m0,m1,m2,m3,m4,m5,m6⟩:=Dds.at hrd (k:=n) (by rw [HN.out];omega);clear hrd;obtain ⟨s0,s1,s2,s3,s4,-⟩:=G.facts4;obtain ⟨t0,t1,t2,t3,t4,t5⟩:=AY.facts4
   have hnl:(n:Int)<(u.length:Int):=by rw [HN.out];omega
   have hnl2:n<u.length:=by rw [HN.out];omega
   have hY0:=AY.lt
   have hYo:∀ k,(Value.slice x2 d.length y2).ownBlock=some k→k≠Y:=fun k hk=>neY k (.inr (.inl hk))
   have hXo:∀ k,(Value.slice x2 d.length y2).ownBlock=some k→k≠X+1:=fun k hk=>by have:=(o2.d.lt hk).1;omega
   have hny:u.length≤y3:=o2.u.caps.1;have hny2:n≤y3:=qO;have hlz:(d ++ [nth u n]).length=d.length+1:=qP;have HLZ:=Lib.hid hlz;clear hlz
   go_region_law (refine zac8 ddI (.tmp 20) (.tmp 26) (by rfl) (by rfl) w1.heap.size _ d [nth u n] (d ++ [nth u n]) rfl 1 rfl (d.length+1) HLZ.out (some ⟨V.heap.size,0,none⟩) 1 (by rfl) ((o2.d).below (by repeat (first|exact Below.refl _ _|refine Below.drew ?_|refine Below.alloc ?_ qSo _))) (by rfl) (zaem _ _ _) qO qP qSo ?_;rintro av5 cv5 w5 o5 g5 b5 p5;have eY:=(g5.block Y qSo (fun e=>hYo _ e.symm rfl)).trans (Deep.blk_alloc_lt V _ Y hY0);have AY5:=AY.block eY;obtain ⟨q0,q1,q2,q3,q4,q5⟩:=AY5.facts4)
   all_goals
    have eX:=(g5.block (X+1) qSo (fun e=>hXo _ e.symm rfl)).trans (Deep.blk_alloc_lt V _ (X+1) qO)
    have R5:=R.block eX
    have r5:Wr (fun k=>(Value.slice x2 d.length y2).ownBlock=some k) V w5:=Wr.trans (Wr.ofBelow (by repeat (first|exact Below.refl _ _|refine Below.drew ?_|refine Below.alloc ?_ qSo _))) (Wr.ofGrown g5 (fun k hk=>hk))
    have lw:=KOwn.wr o2.l r5 (fun j hj h=>o2.ne12 j hj h)
    have sw:=KOwn.wr o2.u r5 (fun j hj h=>o2.ne23 j h hj)
    have n1:∀ k,(Value.slice x1 l.length y1).ownBlock=some k→(Value.slice av5 (d.length+1) cv5).ownBlock≠some k:=fun k h1 h2=>by
     rcases p5 k h2 with h|h
     · exact o2.ne12 k h1 h
     · have:=(o2.l.lt h1).2;have h':=h;(try simp at h');omega
    have n2:∀ k,(Value.slice x3 u.length y3).ownBlock=some k→(Value.slice av5 (d.length+1) cv5).ownBlock≠some k:=fun k h1 h2=>by
     rcases p5 k h2 with h|h
     · exact o2.ne23 k h h1
     · have:=(o2.u.lt h1).2;have h':=h;(try simp at h');omega
    have hne5:∀ k,(Value.slice av5 (d.length+1) cv5).ownBlock=some k→k≠Y:=fun k h2=>by
     rcases p5 k h2 with h|h
     · exact hYo k h
     · have h':=h;(try simp at h');omega
    have bw:=b0.trans (r5.below b0.size fun k hk=>by have:=(o2.d.lt hk).1;omega)
    have A6:=AY5.set 2 (.slice av5 (d.length+1) cv5);have R6:=R5.setOther (p:=⟨Y,2,none⟩) (by show X+1≠Y;omega) (.slice av5 (d.length+1) cv5)
    have l6:=lw.setOther (p:=⟨Y,2,none⟩) (fun e=>neY Y (.inl e) rfl) (.slice av5 (d.length+1) cv5)
    have s6:=sw.setOther (p:=⟨Y,2,none⟩) (fun e=>neY Y (.inr (.inr e)) rfl) (.slice av5 (d.length+1) cv5)
    have d6:=o5.setOther (p:=⟨Y,2,none⟩) (fun e=>hne5 Y e rfl) (.slice av5 (d.length+1) cv5)
    have b6:=bw.setCell (p:=⟨Y,2,none⟩) (by show _≤Y;omega) (.slice av5 (d.length+1) cv5);clear q0 q1 q2 q3 q4 q5 s0 s1 s2 s3 s4 t0 t1 t2 t3 t4 t5 m0 m1 m2 m3 m4 m5 m6 eX eY r5 lw sw R5 AY5 bw b5 g5 o5;have A7:At (w5.setCell ⟨Y,2,none⟩ (.slice av5 (d.length+1) cv5)) Y [.int .i64 st,.slice x1 l.length y1,.slice av5 (d.length+1) cv5,.slice x3 u.length y3]:=A6;clear A6;generalize w5.setCell ⟨Y,2,none⟩ (.slice av5 (d.length+1) cv5)=w6 at A7 R6 l6 s6 d6 b6 ⊢;obtain ⟨q0,q1,q2,q3,q4,q5⟩:=A7.facts4;obtain ⟨r0,r1,r2,r3,r4,r6⟩:=R6.facts4;have hXY:X+1≠Y:=qO;go_wp2_with fail;have R8:=R6.setOther (p:=⟨Y,3,none⟩) hXY (.slice x3 n y3)
    have l8:=l6.setOther (p:=⟨Y,3,none⟩) (fun e=>neY Y (.inl e) rfl) (.slice x3 n y3)
    have s8:=(s6.cut n qO).setOther (p:=⟨Y,3,none⟩) (fun e=>neY Y (.inr (.inr ((zaat _ _ _ _ _).trans e))) rfl) (.slice x3 n y3)
    have d8:=d6.setOther (p:=⟨Y,3,none⟩) (fun e=>hne5 Y e rfl) (.slice x3 n y3)
    have b8:=b6.setCell (p:=⟨Y,3,none⟩) (by show _≤Y;omega) (.slice x3 n y3)
    obtain ⟨AE,oE,bE⟩:=zaap (v0:=.int .i64 st) (X:=X+1) (B:=w1.heap.size) (b:=⟨⟨st,l⟩,d ++ [nth u n],u.take n⟩) qO qO qO R8 ⟨l8,d8,s8,n1,(fun k h1 h2=>o2.ne13 k h1 ((zaat _ _ _ _ _).trans h2)),(fun k h1 h2=>n2 k ((zaat _ _ _ _ _).trans h2) h1)⟩ b8
    obtain ⟨f0,f1,f2,f3,f4,-⟩:=AE.facts4
    exact bodyPost_ret (v:=.tuple #[.agg #[.int .i64 st,.slice x1 l.length y1,.slice av5 (d.length+1) cv5,.slice x3 n y3],.bool true]) (by simp [results,Tryz.results59,go_sem,f1,f2,f3,f4]) rfl ⟨_,_,_,rfl,oE,bE⟩
set_option maxHeartbeats 4000000
theorem zahz {P:Program} {α:Type} [Inhabited α] {K:Kind α} {T t:TypeId} (I:KInfo P K T t) {w:World} {ops:Array Oper} {rest:List Oper} {o:Oper} {a:Act} {Q:Exit→Act→World→Prop} (s x:Operand) (hw:Region.wanted o (yielded ops a.tmps)=true)
 (hop:o.op=.call { callee:=.builtin .append,args:=#[s,x],argTypes:=#[t,t] }) (B:Nat) (v:Value) (xs ys zs:List α) (hz:xs ++ ys=zs) (m:Nat) (hm:ys.length=m) (q:Nat) (hq:zs.length=q) (A:Option Addr) (c:Nat) (hs:a.eval s=v)
 (hown:KOwn K T w B v xs) (hx:a.eval x=.slice A m c) (hy:KRd K w A ys) (hl:xs.length≤2097160) (hl2:ys.length≤2097160) (hB:B≤w.heap.size)
 (hK:∀ av cv w',KOwn K T w' B (.slice av q cv) zs→w.grownBy w' v.ownBlock→Below B w w'→(∀ k,(Value.slice av q cv).ownBlock=some k→v.ownBlock=some k∨k=w.heap.size)→wpList P ops Q rest (a.put o.dst (.slice av q cv)) w'):wpList P ops Q (o :: rest) a w:=by
 subst hz hm hq
 exact zaaj I s x hw hop B v xs ys A c hs hown hx hy hl hl2 hB fun av cv w' h1 h2 h3 h4=>hK av cv w' h1 h2 h3 fun k hk=>by
  rcases h4 with e|e
  · exact .inl (e▸hk)
  · rw [e] at hk;cases hk;exact .inr rfl
theorem zax0 {w wz:World} {X B:Nat} {u0 u1 u2 u3 v0 v1 v2 v3:Value} {l:List Lg} {d:List Dd} (hX:w.heap.size≤X) (hB:X<B) (hwB:w.heap.size≤B) (R:At wz X [u0,u1,u2,u3]) (ol:OwnL wz B v1 l) (od:OwnD wz B v2 d) (hb:Below w.heap.size w wz) :
 At ((((wz.setCell ⟨X,0,none⟩ v0).setCell ⟨X,1,none⟩ v1).setCell ⟨X,2,none⟩ v2).setCell ⟨X,3,none⟩ v3) X [v0,v1,v2,v3] ∧
 OwnL ((((wz.setCell ⟨X,0,none⟩ v0).setCell ⟨X,1,none⟩ v1).setCell ⟨X,2,none⟩ v2).setCell ⟨X,3,none⟩ v3) w.heap.size v1 l ∧
 OwnD ((((wz.setCell ⟨X,0,none⟩ v0).setCell ⟨X,1,none⟩ v1).setCell ⟨X,2,none⟩ v2).setCell ⟨X,3,none⟩ v3) w.heap.size v2 d ∧
 Below w.heap.size w ((((wz.setCell ⟨X,0,none⟩ v0).setCell ⟨X,1,none⟩ v1).setCell ⟨X,2,none⟩ v2).setCell ⟨X,3,none⟩ v3):=by
 refine ⟨R.sets4 _ _ _ _,?_,?_,?_⟩
 · exact ((((ol.setCell (p:=⟨X,0,none⟩) hB _).setCell (p:=⟨X,1,none⟩) hB _).setCell (p:=⟨X,2,none⟩) hB _).setCell (p:=⟨X,3,none⟩) hB _).mono hwB
 · exact ((((od.setCell (p:=⟨X,0,none⟩) hB _).setCell (p:=⟨X,1,none⟩) hB _).setCell (p:=⟨X,2,none⟩) hB _).setCell (p:=⟨X,3,none⟩) hB _).mono hwB
 · exact (((hb.setCell (p:=⟨X,0,none⟩) hX _).setCell (p:=⟨X,1,none⟩) hX _).setCell (p:=⟨X,2,none⟩) hX _).setCell (p:=⟨X,3,none⟩) hX _
theorem zapu {b:Bk} {x:Dd} (h:bkOk b=false):bkDo b x=(zeroBk,false):=by simp [bkDo,h]
theorem zasd {b:Bk} {x:Dd} (h:bkOk b=true) (h0:(ddDo (bkNow b) x).2=false):bkDo b x=(b,false):=by simp [bkDo,h,h0]
theorem zamw {b:Bk} {x:Dd} (h:bkOk b=true) (h0:b.done.length=40):bkDo b x=(b,false):=by simp [bkDo,h,h0]
theorem zapv {b:Bk} {x:Dd} (h:bkOk b=true) (h0:(ddDo (bkNow b) x).2=true) (h1:b.done.length≠40):bkDo b x=(⟨b.first,b.done ++ [x],[]⟩,true):=by simp [bkDo,h,h0,h1]
theorem zas8 (a1 a2 a3:Option Addr) (c1 c2 c3:Nat) (st:Int) (l:List Lg) (d u:List Dd) (x:Dd) (w:World) (hl:l.length≤1048576) (hd:d.length≤1048576) (hu:u.length≤1048576) (hs:RdB w a1 a2 a3 ⟨⟨st,l⟩,d,u⟩) (hv:bkOk ⟨⟨st,l⟩,d,u⟩=false) :
 Calls Tryz.prog 63 #[.agg #[.int .i64 st,.slice a1 l.length c1,.slice a2 d.length c2,.slice a3 u.length c3],x.val] w (BkOut (bkDo ⟨⟨st,l⟩,d,u⟩ x) w):=by
 rw [zapu hv];obtain ⟨kd,ix,⟨x1,x2,x3,x4,x5⟩⟩:=x
 show Calls Tryz.prog 63 #[.agg #[.int .i64 st,.slice a1 l.length c1,.slice a2 d.length c2,.slice a3 u.length c3],.agg #[.int .i64 kd,.int .i64 ix,.int .i64 x1,.int .i64 x2,.int .i64 x3,.int .i64 x4,.int .i64 x5]] w _
 obtain ⟨X,hX⟩:=qN (w.heap.size);obtain ⟨W1,hW1⟩:=qM (((w.alloc (.cells #[.int .i64 st,.slice a1 l.length c1,.slice a2 d.length c2,.slice a3 u.length c3] 28)).alloc (.cells #[.int .i64 kd,.int .i64 ix,.int .i64 x1,.int .i64 x2,.int .i64 x3,.int .i64 x4,.int .i64 x5] 82)).alloc (.cells #[.int .i64 0,.slice none 0 0,.slice none 0 0,.slice none 0 0] 28))
 have G:At W1 X [.int .i64 st,.slice a1 l.length c1,.slice a2 d.length c2,.slice a3 u.length c3]:=by rw [hW1];exact ((At.new _ _ _ hX.symm rfl).alloc _).alloc _
 have Q:At W1 (X+1) [.int .i64 kd,.int .i64 ix,.int .i64 x1,.int .i64 x2,.int .i64 x3,.int .i64 x4,.int .i64 x5]:=by rw [hW1];exact (At.new _ _ _ (by simp [hX]) rfl).alloc _
 have R:At W1 (X+1+1) [.int .i64 0,.slice none 0 0,.slice none 0 0,.slice none 0 0]:=by rw [hW1];exact At.new _ _ _ (by simp [hX]) rfl
 have b0:Below w.heap.size w W1:=by rw [hW1];exact qBl
 go_enter Tryz.func63,Tryz.ntmps63
 go_wp2_with fail;rw [← hW1];clear hW1;refine (zaan _ _ _ _ _ _ st l d u _ hl hd hu (hs.below b0)).mono ?_;rintro e w1 ⟨rfl,k1⟩;rw [hv];replace R:=R.below k1;replace b0:=b0.trans (k1.mono b0.size);clear k1 G Q;obtain ⟨r0,r1,r2,r3,r4,r5⟩:=R.facts4;go_wp2_with fail
 obtain ⟨AE,oE,bE⟩:=zaap (v0:=.int .i64 0) (v1:=.slice none 0 0) (v2:=.slice none 0 0) (v3:=.slice none 0 0) (b:=zeroBk) (X:=X+1+1) (B:=X+1+1+1) qO qO qO R ⟨KOwn.nil,KOwn.nil,KOwn.nil,(fun k h=>by cases h),(fun k h=>by cases h),(fun k h=>by cases h)⟩ b0
 obtain ⟨f0,f1,f2,f3,f4,-⟩:=AE.facts4
 exact bodyPost_ret (v:=.tuple #[.agg #[.int .i64 0,.slice none 0 0,.slice none 0 0,.slice none 0 0],.bool false]) (by simp [results,Tryz.results63,go_sem,f1,f2,f3,f4]) rfl ⟨_,_,_,rfl,oE,bE⟩
theorem zauw (a1 a2 a3:Option Addr) (c1 c2 c3:Nat) (st:Int) (l:List Lg) (d u:List Dd) (x:Dd) (w:World) (hl:l.length≤1048576) (hd:d.length≤1048576) (hu:u.length≤1048576) (hs:RdB w a1 a2 a3 ⟨⟨st,l⟩,d,u⟩) (hv:bkOk ⟨⟨st,l⟩,d,u⟩=true) :
 Calls Tryz.prog 63 #[.agg #[.int .i64 st,.slice a1 l.length c1,.slice a2 d.length c2,.slice a3 u.length c3],x.val] w (BkOut (bkDo ⟨⟨st,l⟩,d,u⟩ x) w):=by
 obtain ⟨hlen1,hlen2⟩:=zab1 hv;simp only at hlen1 hlen2;obtain ⟨⟨nst,nl⟩,hn⟩:=qN (bkNow ⟨⟨st,l⟩,d,u⟩)
 have hnl:nl.length≤9:=by have:=zahx ⟨⟨st,l⟩,d,u⟩;rw [hn] at this;exact this
 obtain ⟨⟨⟨tst,tl⟩,ok⟩,hp⟩:=qN (ddDo ⟨nst,nl⟩ x);obtain ⟨kd,ix,⟨x1,x2,x3,x4,x5⟩⟩:=x
 have K:=fun (a:Option Addr) (c:Nat) (w':World) (h:Legs w' a nl)=>zag2 a c nst nl ⟨kd,ix,⟨x1,x2,x3,x4,x5⟩⟩ w' qO h
 rw [hp] at K;have HD:=Lib.hid K;have HN:=Lib.hid hn;have HP:=Lib.hid hp;clear K hn hp
 show Calls Tryz.prog 63 #[.agg #[.int .i64 st,.slice a1 l.length c1,.slice a2 d.length c2,.slice a3 u.length c3],.agg #[.int .i64 kd,.int .i64 ix,.int .i64 x1,.int .i64 x2,.int .i64 x3,.int .i64 x4,.int .i64 x5]] w _
 obtain ⟨X,hX⟩:=qN (w.heap.size);obtain ⟨W1,hW1⟩:=qM (((w.alloc (.cells #[.int .i64 st,.slice a1 l.length c1,.slice a2 d.length c2,.slice a3 u.length c3] 28)).alloc (.cells #[.int .i64 kd,.int .i64 ix,.int .i64 x1,.int .i64 x2,.int .i64 x3,.int .i64 x4,.int .i64 x5] 82)).alloc (.cells #[.int .i64 0,.slice none 0 0,.slice none 0 0,.slice none 0 0] 28))
 have G:At W1 X [.int .i64 st,.slice a1 l.length c1,.slice a2 d.length c2,.slice a3 u.length c3]:=by rw [hW1];exact ((At.new _ _ _ hX.symm rfl).alloc _).alloc _
 have Q:At W1 (X+1) [.int .i64 kd,.int .i64 ix,.int .i64 x1,.int .i64 x2,.int .i64 x3,.int .i64 x4,.int .i64 x5]:=by rw [hW1];exact (At.new _ _ _ (by simp [hX]) rfl).alloc _
 have R:At W1 (X+1+1) [.int .i64 0,.slice none 0 0,.slice none 0 0,.slice none 0 0]:=by rw [hW1];exact At.new _ _ _ (by simp [hX]) rfl
 have b0:Below w.heap.size w W1:=by rw [hW1];exact qBl
 go_enter Tryz.func63,Tryz.ntmps63
 go_wp2_with fail;rw [← hW1];clear hW1;refine (zaan _ _ _ _ _ _ st l d u _ hl hd hu (hs.below b0)).mono ?_;rintro e w1 ⟨rfl,k1⟩;rw [hv];replace R:=R.below k1;replace G:=G.below k1;replace Q:=Q.below k1;replace b0:=b0.trans (k1.mono b0.size);clear k1;obtain ⟨s0,s1,s2,s3,s4,-⟩:=G.facts4;go_wp2_with fail;refine (zab0 _ _ _ _ _ _ st l d u _ hl hd hu (hs.below b0)).mono ?_;rintro e w2 ⟨v1,v2,v3,rfl,o2,k2⟩;obtain ⟨z1,y1,z2,y2,z3,y3,rfl,rfl,rfl⟩:=o2.forms;have hR1:=R.lt;have hk2:=k2.size;have hb1:=b0.size;replace R:=R.below k2;replace G:=G.below k2;replace Q:=Q.below k2;replace b0:=b0.trans (k2.mono b0.size);simp only at o2 ⊢;clear k2 s0 s1 s2 s3 s4;go_upto_region 4 with fail;obtain ⟨Y,hY⟩:=qN (w2.heap.size);obtain ⟨V,hV⟩:=qM (w2.alloc (.cells #[.int .i64 st,.slice z1 l.length y1,.slice z2 d.length y2,.slice z3 u.length y3] 28))
 have c:Below w2.heap.size w2 V:=by rw [hV];exact qBl
 have AY:At V Y [.int .i64 st,.slice z1 l.length y1,.slice z2 d.length y2,.slice z3 u.length y3]:=by rw [hV];exact At.new _ _ _ hY.symm rfl
 have neY:∀ k,bkBlk (.slice z1 l.length y1) (.slice z2 d.length y2) (.slice z3 u.length y3) k→k≠Y:=fun k hk=>by have:=(o2.blk hk).2;omega
 rw [hY,← hV]
 have hRY:X+1+1<Y:=by have:=R.lt;omega
 have h1Y:w1.heap.size≤Y:=by rw [← hY];exact hk2
 replace R:=R.below c;replace G:=G.below c;replace Q:=Q.below c;replace o2:=o2.below c;replace b0:=b0.trans (c.mono b0.size);clear c hV hY hk2;obtain ⟨s0,s1,s2,s3,s4,-⟩:=G.facts4;obtain ⟨q0,q1,q2,q3,q4,q5,q6,q7,-⟩:=Q.facts7;have hrb:=hs.below b0
 go_cut [7,8] (fun pa pb wx=>pb=.bool ok∧BoxS V ⟨tst,tl⟩ pa wx)
 case first =>
  go_region_held3 (fun w'=>Below V.heap.size V w'∧∀ b o,b<V.heap.size→w'.cell? ⟨b,o,none⟩=V.cell? ⟨b,o,none⟩) (exact kept qHb)
   (first
   | (go_at_call 19;refine (zadg _ _ _ _ _ _ st l d u _ hl hd hu (hrb.below qHb)).mono ?_;rintro e wy ⟨vy,rfl,oy,c⟩;rw [HN.out] at oy ⊢;obtain ⟨ay,cy,rfl⟩:=oy.sl;have By:=zaae (V:=V) qHb c;have zy:=By.size;(first|have hA0:=A0.lt|skip);(first|have A0:=A0.below c|have A0:=A0.drew.below c|have A0:=At.born c|have A0:=At.bornD c|skip);(first|obtain ⟨j0,j1,j2,j3⟩:=A0.facts2|skip);clear c;simp only)
   | (go_at_call 50;refine (HD.out _ _ _ (by first|exact oy.kr|exact (oy.alloc _).kr)).mono ?_;rintro e wz ⟨vz,rfl,oz,c⟩;obtain ⟨az,cz,rfl⟩:=oz.sl;have Bz:=zaae (V:=V) qHb c;have zz:=Bz.size;(first|have hA0:=A0.lt|skip);(first|have A0:=A0.below c|have A0:=A0.drew.below c|have A0:=At.born c|have A0:=At.bornD c|skip);(first|obtain ⟨i0,i1,i2,i3⟩:=A0.facts2|skip);clear c;simp only))
  all_goals (go_wp2_with fail;go_meet)
  all_goals exact ⟨rfl,(by first|with_reducible exact zagz (s:=⟨tst,tl⟩) oz qSo Bz|exact zag0 (s:=⟨tst,tl⟩) A0 qSo oz qSo (by first|exact hA0|simp) Bz)⟩
 obtain ⟨rfl,B,a,c,rfl,hB,AB,oB,ne,bb⟩:=hcut;replace G:=G.below bb;replace Q:=Q.below bb;replace R:=R.below bb;replace AY:=AY.below bb;replace o2:=o2.below bb;replace b0:=b0.trans (bb.mono b0.size);clear s0 s1 s2 s3 s4 q0 q1 q2 q3 q4 q5 q6 q7 hrb AB oB ne hB bb;obtain ⟨s0,s1,s2,s3,s4,-⟩:=G.facts4;obtain ⟨t0,t1,t2,t3,t4,t5⟩:=AY.facts4;obtain ⟨r0,r1,r2,r3,r4,r5⟩:=R.facts4
 cases ok
 · have HE:=Lib.hid (zasd (x:=⟨kd,ix,⟨x1,x2,x3,x4,x5⟩⟩) hv (by rw [HN.out,HP.out]))
   go_wp2_with fail;obtain ⟨AE,oE,bE⟩:=zaap (v0:=.int .i64 st) (X:=X+1+1) (B:=w1.heap.size) qO qO qO R o2 b0;obtain ⟨f0,f1,f2,f3,f4,-⟩:=AE.facts4;refine bodyPost_ret (v:=.tuple #[.agg #[.int .i64 st,.slice z1 l.length y1,.slice z2 d.length y2,.slice z3 u.length y3],.bool false]) (by simp [results,Tryz.results63,go_sem,f1,f2,f3,f4]) rfl ?_;rw [HE.out]
   exact ⟨_,_,_,rfl,oE,bE⟩
 by_cases h40:d.length=40
 · have HE:=Lib.hid (zamw (x:=⟨kd,ix,⟨x1,x2,x3,x4,x5⟩⟩) hv h40)
   have h41:((d.length:Int) == 40)=true:=by simp;omega
   clear h40;go_wp2_with fail;obtain ⟨AE,oE,bE⟩:=zaap (v0:=.int .i64 st) (X:=X+1+1) (B:=w1.heap.size) qO qO qO R o2 b0;obtain ⟨f0,f1,f2,f3,f4,-⟩:=AE.facts4;refine bodyPost_ret (v:=.tuple #[.agg #[.int .i64 st,.slice z1 l.length y1,.slice z2 d.length y2,.slice z3 u.length y3],.bool false]) (by simp [results,Tryz.results63,go_sem,f1,f2,f3,f4]) rfl ?_;rw [HE.out]
   exact ⟨_,_,_,rfl,oE,bE⟩
 have HE:=Lib.hid (zapv (x:=⟨kd,ix,⟨x1,x2,x3,x4,x5⟩⟩) hv (by rw [HN.out,HP.out]) h40)
 have h41:((d.length:Int) == 40)=false:=by simp;omega
 clear h40;obtain ⟨q0,q1,q2,q3,q4,q5,q6,q7,-⟩:=Q.facts7;have hY0:=AY.lt
 have hYo:∀ k,(Value.slice z2 d.length y2).ownBlock=some k→k≠Y:=fun k hk=>neY k (.inr (.inl hk))
 have hXo:∀ k,(Value.slice z2 d.length y2).ownBlock=some k→k≠X+1+1:=fun k hk=>by have:=(o2.d.lt hk).1;omega
 have HLZ:=Lib.hid (show (d ++ [(⟨kd,ix,⟨x1,x2,x3,x4,x5⟩⟩:Dd)]).length=d.length+1 by simp)
 go_wp2_with (at_builtin;refine zahz ddI _ _ rfl rfl w1.heap.size (.slice z2 d.length y2) d [(⟨kd,ix,⟨x1,x2,x3,x4,x5⟩⟩:Dd)] (d ++ [(⟨kd,ix,⟨x1,x2,x3,x4,x5⟩⟩:Dd)]) rfl 1 rfl (d.length+1) HLZ.out (some ⟨wc.heap.size,0,none⟩) 1 rfl (o2.d.alloc _) rfl (zaem _ _ _) qO qP qSo ?_;rintro av5 cv5 w5 o5 g5 b5 p5;have eY:=(g5.block Y qSo (fun e=>hYo _ e.symm rfl)).trans (Deep.blk_alloc_lt wc _ Y hY0);have AY5:=AY.block eY;have eX:=(g5.block (X+1+1) qSo (fun e=>hXo _ e.symm rfl)).trans (Deep.blk_alloc_lt wc _ (X+1+1) qO);have R5:=R.block eX;clear t0 t1 t2 t3 t4 t5 r0 r1 r2 r3 r4 r5;obtain ⟨t0,t1,t2,t3,t4,t5⟩:=AY5.facts4;obtain ⟨r0,r1,r2,r3,r4,r5⟩:=R5.facts4)
 have r5':Wr (fun k=>(Value.slice z2 d.length y2).ownBlock=some k) wc w5:=Wr.trans (Wr.ofBelow ((Below.refl _ _).alloc (Nat.le_refl _) _)) (Wr.ofGrown g5 (fun k hk=>hk))
 have lw:=KOwn.wr o2.l r5' (fun j hj h=>o2.ne12 j hj h)
 have n1:∀ k,(Value.slice z1 l.length y1).ownBlock=some k→(Value.slice av5 (d.length+1) cv5).ownBlock≠some k:=fun k h1 h2=>by
  rcases p5 k h2 with h|h
  · exact o2.ne12 k h1 h
  · have:=(o2.l.lt h1).2;have h':=h;(try simp at h');omega
 have hne5:∀ k,(Value.slice av5 (d.length+1) cv5).ownBlock=some k→k≠Y:=fun k h2=>by
  rcases p5 k h2 with h|h
  · exact hYo k h
  · have h':=h;(try simp at h');omega
 have bw:=b0.trans (r5'.below b0.size fun k hk=>by have:=(o2.d.lt hk).1;omega)
 have hXY:X+1+1≠Y:=qO;have R8:=(R5.setOther (p:=⟨Y,2,none⟩) hXY (.slice av5 (d.length+1) cv5)).setOther (p:=⟨Y,3,none⟩) hXY (.slice none 0 0)
 have l8:=(lw.setOther (p:=⟨Y,2,none⟩) (fun e=>neY Y (.inl e) rfl) (.slice av5 (d.length+1) cv5)).setOther (p:=⟨Y,3,none⟩) (fun e=>neY Y (.inl e) rfl) (.slice none 0 0)
 have d8:=(o5.setOther (p:=⟨Y,2,none⟩) (fun e=>hne5 Y e rfl) (.slice av5 (d.length+1) cv5)).setOther (p:=⟨Y,3,none⟩) (fun e=>hne5 Y e rfl) (.slice none 0 0)
 have b8:=(bw.setCell (p:=⟨Y,2,none⟩) (by show _≤Y;omega) (.slice av5 (d.length+1) cv5)).setCell (p:=⟨Y,3,none⟩) (by show _≤Y;omega) (.slice none 0 0)
 obtain ⟨AE,oE,bE⟩:=zaap (v0:=.int .i64 st) (X:=X+1+1) (B:=w1.heap.size) (b:=⟨⟨st,l⟩,d ++ [(⟨kd,ix,⟨x1,x2,x3,x4,x5⟩⟩:Dd)],[]⟩) qO qO qO R8 ⟨l8,d8,KOwn.nil,n1,(fun k h1 h2=>by cases h2),(fun k h1 h2=>by cases h2)⟩ b8
 obtain ⟨f0,f1,f2,f3,f4,-⟩:=AE.facts4;refine bodyPost_ret (v:=.tuple #[.agg #[.int .i64 st,.slice z1 l.length y1,.slice av5 (d.length+1) cv5,.slice none 0 0],.bool true]) (by simp [results,Tryz.results63,go_sem,f1,f2,f3,f4]) rfl ?_;rw [HE.out]
 exact ⟨_,_,_,rfl,oE,bE⟩
theorem zas9 (a1 a2 a3:Option Addr) (c1 c2 c3:Nat) (st:Int) (l:List Lg) (d u:List Dd) (x:Dd) (w:World) (hl:l.length≤1048576) (hd:d.length≤1048576) (hu:u.length≤1048576) (hs:RdB w a1 a2 a3 ⟨⟨st,l⟩,d,u⟩) :
 Calls Tryz.prog 63 #[.agg #[.int .i64 st,.slice a1 l.length c1,.slice a2 d.length c2,.slice a3 u.length c3],x.val] w (BkOut (bkDo ⟨⟨st,l⟩,d,u⟩ x) w):=by
 cases hv:bkOk ⟨⟨st,l⟩,d,u⟩
 · exact zas8 a1 a2 a3 c1 c2 c3 st l d u x w hl hd hu hs hv
 · exact zauw a1 a2 a3 c1 c2 c3 st l d u x w hl hd hu hs hv
theorem zarh (a1 a2 a3:Option Addr) (c1 c2 c3:Nat) (st:Int) (l:List Lg) (d u:List Dd) (x:Dd) (w:World) (hl:l.length≤1048576) (hd:d.length≤1048576) (hu:u.length≤1048576) (hs:RdB w a1 a2 a3 ⟨⟨st,l⟩,d,u⟩) (hv:bkOk ⟨⟨st,l⟩,d,u⟩=false) :
 Calls Tryz.prog 57 #[.agg #[.int .i64 st,.slice a1 l.length c1,.slice a2 d.length c2,.slice a3 u.length c3],x.val] w (BkOut (bkDo ⟨⟨st,l⟩,d,u⟩ x) w):=by
 rw [zapu hv];obtain ⟨kd,ix,⟨x1,x2,x3,x4,x5⟩⟩:=x
 show Calls Tryz.prog 57 #[.agg #[.int .i64 st,.slice a1 l.length c1,.slice a2 d.length c2,.slice a3 u.length c3],.agg #[.int .i64 kd,.int .i64 ix,.int .i64 x1,.int .i64 x2,.int .i64 x3,.int .i64 x4,.int .i64 x5]] w _
 obtain ⟨X,hX⟩:=qN (w.heap.size);obtain ⟨W1,hW1⟩:=qM (((w.alloc (.cells #[.int .i64 st,.slice a1 l.length c1,.slice a2 d.length c2,.slice a3 u.length c3] 28)).alloc (.cells #[.int .i64 kd,.int .i64 ix,.int .i64 x1,.int .i64 x2,.int .i64 x3,.int .i64 x4,.int .i64 x5] 82)).alloc (.cells #[.int .i64 0,.slice none 0 0,.slice none 0 0,.slice none 0 0] 28))
 have G:At W1 X [.int .i64 st,.slice a1 l.length c1,.slice a2 d.length c2,.slice a3 u.length c3]:=by rw [hW1];exact ((At.new _ _ _ hX.symm rfl).alloc _).alloc _
 have Q:At W1 (X+1) [.int .i64 kd,.int .i64 ix,.int .i64 x1,.int .i64 x2,.int .i64 x3,.int .i64 x4,.int .i64 x5]:=by rw [hW1];exact (At.new _ _ _ (by simp [hX]) rfl).alloc _
 have R:At W1 (X+1+1) [.int .i64 0,.slice none 0 0,.slice none 0 0,.slice none 0 0]:=by rw [hW1];exact At.new _ _ _ (by simp [hX]) rfl
 have b0:Below w.heap.size w W1:=by rw [hW1];exact qBl
 go_enter Tryz.func57,Tryz.ntmps57
 go_wp2_with fail;rw [← hW1];clear hW1;refine (zaak _ _ _ _ _ _ st l d u _ hl hd hu (hs.below b0)).mono ?_;rintro e w1 ⟨rfl,k1⟩;rw [hv];replace R:=R.below k1;replace b0:=b0.trans (k1.mono b0.size);clear k1 G Q;obtain ⟨r0,r1,r2,r3,r4,r5⟩:=R.facts4;go_wp2_with fail
 obtain ⟨AE,oE,bE⟩:=zaap (v0:=.int .i64 0) (v1:=.slice none 0 0) (v2:=.slice none 0 0) (v3:=.slice none 0 0) (b:=zeroBk) (X:=X+1+1) (B:=X+1+1+1) qO qO qO R ⟨KOwn.nil,KOwn.nil,KOwn.nil,(fun k h=>by cases h),(fun k h=>by cases h),(fun k h=>by cases h)⟩ b0
 obtain ⟨f0,f1,f2,f3,f4,-⟩:=AE.facts4
 exact bodyPost_ret (v:=.tuple #[.agg #[.int .i64 0,.slice none 0 0,.slice none 0 0,.slice none 0 0],.bool false]) (by simp [results,Tryz.results57,go_sem,f1,f2,f3,f4]) rfl ⟨_,_,_,rfl,oE,bE⟩
theorem zata (a1 a2 a3:Option Addr) (c1 c2 c3:Nat) (st:Int) (l:List Lg) (d u:List Dd) (x:Dd) (w:World) (hl:l.length≤1048576) (hd:d.length≤1048576) (hu:u.length≤1048576) (hs:RdB w a1 a2 a3 ⟨⟨st,l⟩,d,u⟩) (hv:bkOk ⟨⟨st,l⟩,d,u⟩=true) :
 Calls Tryz.prog 57 #[.agg #[.int .i64 st,.slice a1 l.length c1,.slice a2 d.length c2,.slice a3 u.length c3],x.val] w (BkOut (bkDo ⟨⟨st,l⟩,d,u⟩ x) w):=by
 obtain ⟨hlen1,hlen2⟩:=zab1 hv;simp only at hlen1 hlen2;obtain ⟨⟨nst,nl⟩,hn⟩:=qN (bkNow ⟨⟨st,l⟩,d,u⟩)
 have hnl:nl.length≤9:=by have:=zahx ⟨⟨st,l⟩,d,u⟩;rw [hn] at this;exact this
 obtain ⟨⟨⟨tst,tl⟩,ok⟩,hp⟩:=qN (ddDo ⟨nst,nl⟩ x);obtain ⟨kd,ix,⟨x1,x2,x3,x4,x5⟩⟩:=x
 have K:=fun (a:Option Addr) (c:Nat) (w':World) (h1:nl.length≤c) (h2:c≤9223372036854775807) (h3:∀ ad,a=some ad→ad.spot=none) (h:Legs w' a nl)=>zaiw a c nst nl ⟨kd,ix,⟨x1,x2,x3,x4,x5⟩⟩ w' qO h1 h2 h3 h
 rw [hp] at K;have HD:=Lib.hid K;have HN:=Lib.hid hn;have HP:=Lib.hid hp;clear K hn hp
 show Calls Tryz.prog 57 #[.agg #[.int .i64 st,.slice a1 l.length c1,.slice a2 d.length c2,.slice a3 u.length c3],.agg #[.int .i64 kd,.int .i64 ix,.int .i64 x1,.int .i64 x2,.int .i64 x3,.int .i64 x4,.int .i64 x5]] w _
 obtain ⟨X,hX⟩:=qN (w.heap.size);obtain ⟨W1,hW1⟩:=qM (((w.alloc (.cells #[.int .i64 st,.slice a1 l.length c1,.slice a2 d.length c2,.slice a3 u.length c3] 28)).alloc (.cells #[.int .i64 kd,.int .i64 ix,.int .i64 x1,.int .i64 x2,.int .i64 x3,.int .i64 x4,.int .i64 x5] 82)).alloc (.cells #[.int .i64 0,.slice none 0 0,.slice none 0 0,.slice none 0 0] 28))
 have G:At W1 X [.int .i64 st,.slice a1 l.length c1,.slice a2 d.length c2,.slice a3 u.length c3]:=by rw [hW1];exact ((At.new _ _ _ hX.symm rfl).alloc _).alloc _
 have Q:At W1 (X+1) [.int .i64 kd,.int .i64 ix,.int .i64 x1,.int .i64 x2,.int .i64 x3,.int .i64 x4,.int .i64 x5]:=by rw [hW1];exact (At.new _ _ _ (by simp [hX]) rfl).alloc _
 have R:At W1 (X+1+1) [.int .i64 0,.slice none 0 0,.slice none 0 0,.slice none 0 0]:=by rw [hW1];exact At.new _ _ _ (by simp [hX]) rfl
 have b0:Below w.heap.size w W1:=by rw [hW1];exact qBl
 go_enter Tryz.func57,Tryz.ntmps57
 go_wp2_with fail;rw [← hW1];clear hW1;refine (zaak _ _ _ _ _ _ st l d u _ hl hd hu (hs.below b0)).mono ?_;rintro e w1 ⟨rfl,k1⟩;rw [hv];replace R:=R.below k1;replace G:=G.below k1;replace Q:=Q.below k1;replace b0:=b0.trans (k1.mono b0.size);clear k1;go_upto_region 3 with fail;obtain ⟨s0,s1,s2,s3,s4,-⟩:=G.facts4;obtain ⟨q0,q1,q2,q3,q4,q5,q6,q7,-⟩:=Q.facts7;have hrb:=hs.below b0
 go_cut [6,7] (fun pa pb wx=>pb=.bool ok∧BoxS w1 ⟨tst,tl⟩ pa wx)
 case first =>
  go_region_held3 (fun w'=>Below w1.heap.size w1 w'∧∀ b o,b<w1.heap.size→w'.cell? ⟨b,o,none⟩=w1.cell? ⟨b,o,none⟩) (exact kept qHb)
   (first
   | (go_at_call 80;refine (zad3 _ _ _ _ _ _ st l d u _ hl hd hu (hrb.below qHb)).mono ?_;rintro e wy ⟨vy,rfl,oy,c⟩;rw [HN.out] at oy ⊢;obtain ⟨ay,cy,rfl⟩:=oy.sl;have By:=zaae (V:=w1) qHb c;have zy:=By.size;(first|have hA0:=A0.lt|skip);(first|have A0:=A0.below c|have A0:=A0.drew.below c|have A0:=At.born c|have A0:=At.bornD c|skip);(first|obtain ⟨j0,j1,j2,j3⟩:=A0.facts2|skip);clear c;simp only)
   | (go_at_call 86;refine (HD.out _ _ _ oy.caps.1 oy.caps.2.1 oy.caps.2.2 (by first|exact oy.kr|exact (oy.alloc _).kr)).mono ?_;rintro e wz ⟨vz,rfl,oz,c⟩;obtain ⟨az,cz,rfl⟩:=oz.sl;have Bz:=zaae (V:=w1) qHb c;have zz:=Bz.size;(first|have hA0:=A0.lt|skip);(first|have A0:=A0.below c|have A0:=A0.drew.below c|have A0:=At.born c|have A0:=At.bornD c|skip);(first|obtain ⟨i0,i1,i2,i3⟩:=A0.facts2|skip);clear c;simp only))
  all_goals (go_wp2_with fail;go_meet)
  all_goals exact ⟨rfl,(by first|with_reducible exact zagz (s:=⟨tst,tl⟩) oz qSo Bz|exact zag0 (s:=⟨tst,tl⟩) A0 qSo oz qSo (by first|exact hA0|simp) Bz)⟩
 obtain ⟨rfl,B,a,c,rfl,hB,AB,oB,ne,bb⟩:=hcut;replace G:=G.below bb;replace Q:=Q.below bb;replace R:=R.below bb;replace b0:=b0.trans (bb.mono b0.size);clear s0 s1 s2 s3 s4 q0 q1 q2 q3 q4 q5 q6 q7 hrb AB oB ne hB bb;have hRc:=R.lt;obtain ⟨s0,s1,s2,s3,s4,-⟩:=G.facts4
 cases ok
 · have HE:=Lib.hid (zasd (x:=⟨kd,ix,⟨x1,x2,x3,x4,x5⟩⟩) hv (by rw [HN.out,HP.out]))
   go_wp2_with fail;refine (zabw _ _ _ _ _ _ st l d u _ hl hd hu (hs.below b0)).mono ?_;rintro e w2 ⟨v1,v2,v3,rfl,o2,k2⟩;obtain ⟨z1,y1,z2,y2,z3,y3,rfl,rfl,rfl⟩:=o2.forms;have hk2:=k2.size;have hb1:=b0.size;replace R:=R.below k2;replace Q:=Q.below k2;replace b0:=b0.trans (k2.mono b0.size);simp only at o2 ⊢;clear k2 s0 s1 s2 s3 s4 G;obtain ⟨r0,r1,r2,r3,r4,r5⟩:=R.facts4;go_wp2_with fail;obtain ⟨AE,oE,bE⟩:=zaap (v0:=.int .i64 st) (X:=X+1+1) (B:=wc.heap.size) qO qO qO R o2 b0;obtain ⟨f0,f1,f2,f3,f4,-⟩:=AE.facts4;refine bodyPost_ret (v:=.tuple #[.agg #[.int .i64 st,.slice z1 l.length y1,.slice z2 d.length y2,.slice z3 u.length y3],.bool false]) (by simp [results,Tryz.results57,go_sem,f1,f2,f3,f4]) rfl ?_;rw [HE.out]
   exact ⟨_,_,_,rfl,oE,bE⟩
 by_cases h40:d.length=40
 · have HE:=Lib.hid (zamw (x:=⟨kd,ix,⟨x1,x2,x3,x4,x5⟩⟩) hv h40)
   have h41:((d.length:Int) == 40)=true:=by simp;omega
   clear h40;go_wp2_with fail;refine (zabw _ _ _ _ _ _ st l d u _ hl hd hu (hs.below b0)).mono ?_;rintro e w2 ⟨v1,v2,v3,rfl,o2,k2⟩;obtain ⟨z1,y1,z2,y2,z3,y3,rfl,rfl,rfl⟩:=o2.forms;have hk2:=k2.size;have hb1:=b0.size;replace R:=R.below k2;replace Q:=Q.below k2;replace b0:=b0.trans (k2.mono b0.size);simp only at o2 ⊢;clear k2 s0 s1 s2 s3 s4 G;obtain ⟨r0,r1,r2,r3,r4,r5⟩:=R.facts4;go_wp2_with fail;obtain ⟨AE,oE,bE⟩:=zaap (v0:=.int .i64 st) (X:=X+1+1) (B:=wc.heap.size) qO qO qO R o2 b0;obtain ⟨f0,f1,f2,f3,f4,-⟩:=AE.facts4;refine bodyPost_ret (v:=.tuple #[.agg #[.int .i64 st,.slice z1 l.length y1,.slice z2 d.length y2,.slice z3 u.length y3],.bool false]) (by simp [results,Tryz.results57,go_sem,f1,f2,f3,f4]) rfl ?_;rw [HE.out]
   exact ⟨_,_,_,rfl,oE,bE⟩
 have HE:=Lib.hid (zapv (x:=⟨kd,ix,⟨x1,x2,x3,x4,x5⟩⟩) hv (by rw [HN.out,HP.out]) h40)
 have h41:((d.length:Int) == 40)=false:=by simp;omega
 clear h40;go_wp2_with fail;refine (zabw _ _ _ _ _ _ st l d u _ hl hd hu (hs.below b0)).mono ?_;rintro e w2 ⟨v1,v2,v3,rfl,o2,k2⟩;obtain ⟨z1,y1,z2,y2,z3,y3,rfl,rfl,rfl⟩:=o2.forms;have hk2:=k2.size;have hb1:=b0.size;replace R:=R.below k2;replace Q:=Q.below k2;replace b0:=b0.trans (k2.mono b0.size);simp only at o2 ⊢;clear k2 s0 s1 s2 s3 s4 G;go_upto_region 7 with fail;obtain ⟨Y,hY⟩:=qN (w2.heap.size);obtain ⟨V,hV⟩:=qM (w2.alloc (.cells #[.int .i64 st,.slice z1 l.length y1,.slice z2 d.length y2,.slice z3 u.length y3] 28))
 have c:Below w2.heap.size w2 V:=by rw [hV];exact qBl
 have AY:At V Y [.int .i64 st,.slice z1 l.length y1,.slice z2 d.length y2,.slice z3 u.length y3]:=by rw [hV];exact At.new _ _ _ hY.symm rfl
 have neY:∀ k,bkBlk (.slice z1 l.length y1) (.slice z2 d.length y2) (.slice z3 u.length y3) k→k≠Y:=fun k hk=>by have:=(o2.blk hk).2;omega
 rw [hY,← hV]
 have hRY:X+1+1<Y:=by have:=R.lt;omega
 have h1Y:wc.heap.size≤Y:=by rw [← hY];exact hk2
 replace R:=R.below c;replace Q:=Q.below c;replace o2:=o2.below c;replace b0:=b0.trans (c.mono b0.size);clear c hV hY hk2;obtain ⟨t0,t1,t2,t3,t4,t5⟩:=AY.facts4;obtain ⟨r0,r1,r2,r3,r4,r5⟩:=R.facts4;obtain ⟨q0,q1,q2,q3,q4,q5,q6,q7,-⟩:=Q.facts7;have hY0:=AY.lt
 have hYo:∀ k,(Value.slice z2 d.length y2).ownBlock=some k→k≠Y:=fun k hk=>neY k (.inr (.inl hk))
 have hXo:∀ k,(Value.slice z2 d.length y2).ownBlock=some k→k≠X+1+1:=fun k hk=>by have:=(o2.d.lt hk).1;omega
 have HLZ:=Lib.hid (show (d ++ [(⟨kd,ix,⟨x1,x2,x3,x4,x5⟩⟩:Dd)]).length=d.length+1 by simp)
 go_wp2_with (at_builtin;refine zahz ddI _ _ rfl rfl wc.heap.size (.slice z2 d.length y2) d [(⟨kd,ix,⟨x1,x2,x3,x4,x5⟩⟩:Dd)] (d ++ [(⟨kd,ix,⟨x1,x2,x3,x4,x5⟩⟩:Dd)]) rfl 1 rfl (d.length+1) HLZ.out (some ⟨V.heap.size,0,none⟩) 1 rfl (o2.d.alloc _) rfl (zaem _ _ _) qO qP qSo ?_;rintro av5 cv5 w5 o5 g5 b5 p5;have eY:=(g5.block Y qSo (fun e=>hYo _ e.symm rfl)).trans (Deep.blk_alloc_lt V _ Y hY0);have AY5:=AY.block eY;have eX:=(g5.block (X+1+1) qSo (fun e=>hXo _ e.symm rfl)).trans (Deep.blk_alloc_lt V _ (X+1+1) qO);have R5:=R.block eX;clear t0 t1 t2 t3 t4 t5 r0 r1 r2 r3 r4 r5;obtain ⟨t0,t1,t2,t3,t4,t5⟩:=AY5.facts4;obtain ⟨r0,r1,r2,r3,r4,r5⟩:=R5.facts4)
 have r5':Wr (fun k=>(Value.slice z2 d.length y2).ownBlock=some k) V w5:=Wr.trans (Wr.ofBelow ((Below.refl _ _).alloc (Nat.le_refl _) _)) (Wr.ofGrown g5 (fun k hk=>hk))
 have lw:=KOwn.wr o2.l r5' (fun j hj h=>o2.ne12 j hj h)
 have n1:∀ k,(Value.slice z1 l.length y1).ownBlock=some k→(Value.slice av5 (d.length+1) cv5).ownBlock≠some k:=fun k h1 h2=>by
  rcases p5 k h2 with h|h
  · exact o2.ne12 k h1 h
  · have:=(o2.l.lt h1).2;have h':=h;(try simp at h');omega
 have hne5:∀ k,(Value.slice av5 (d.length+1) cv5).ownBlock=some k→k≠Y:=fun k h2=>by
  rcases p5 k h2 with h|h
  · exact hYo k h
  · have h':=h;(try simp at h');omega
 have bw:=b0.trans (r5'.below b0.size fun k hk=>by have:=(o2.d.lt hk).1;omega)
 have hXY:X+1+1≠Y:=qO;have R8:=(R5.setOther (p:=⟨Y,2,none⟩) hXY (.slice av5 (d.length+1) cv5)).setOther (p:=⟨Y,3,none⟩) hXY (.slice (some ⟨w5.heap.size,0,none⟩) 0 0)
 have l8:=(lw.setOther (p:=⟨Y,2,none⟩) (fun e=>neY Y (.inl e) rfl) (.slice av5 (d.length+1) cv5)).setOther (p:=⟨Y,3,none⟩) (fun e=>neY Y (.inl e) rfl) (.slice (some ⟨w5.heap.size,0,none⟩) 0 0)
 have d8:=(o5.setOther (p:=⟨Y,2,none⟩) (fun e=>hne5 Y e rfl) (.slice av5 (d.length+1) cv5)).setOther (p:=⟨Y,3,none⟩) (fun e=>hne5 Y e rfl) (.slice (some ⟨w5.heap.size,0,none⟩) 0 0)
 have b8:=(bw.setCell (p:=⟨Y,2,none⟩) (by show _≤Y;omega) (.slice av5 (d.length+1) cv5)).setCell (p:=⟨Y,3,none⟩) (by show _≤Y;omega) (.slice (some ⟨w5.heap.size,0,none⟩) 0 0);obtain ⟨AE,lE,dE,bE⟩:=zax0 (v0:=.int .i64 st) (v3:=.slice (some ⟨w5.heap.size,0,none⟩) 0 0) (X:=X+1+1) (B:=wc.heap.size) qO qO qO R8 l8 d8 b8;have hz8:w.heap.size≤w5.heap.size:=bw.size
 have hl5:=fun k hk=>(lw.lt (k:=k) hk).2
 have hd5:=fun k hk=>(o5.lt (k:=k) hk).2
 have AF:=AE.alloc (.cells #[] 82);obtain ⟨f0,f1,f2,f3,f4,-⟩:=AF.facts4
 have oF:BkOwn _ w.heap.size (.slice z1 l.length y1) (.slice av5 (d.length+1) cv5) (.slice (some ⟨w5.heap.size,0,none⟩) 0 0) ⟨⟨st,l⟩,d ++ [(⟨kd,ix,⟨x1,x2,x3,x4,x5⟩⟩:Dd)],[]⟩ :=
  ⟨lE.alloc (.cells #[] 82),dE.alloc _,App0.own (B:=w.heap.size) (.inl ⟨rfl,rfl⟩) (zako _ _ _ (by simp [World.setCell])) qO (Nat.le_refl _),n1,(fun k h1 h2=>by have h3:=Option.some.inj (show some w5.heap.size=some k from h2);have:=hl5 _ h1;omega),(fun k h1 h2=>by have h3:=Option.some.inj (show some w5.heap.size=some k from h2);have:=hd5 _ h1;omega)⟩
 refine bodyPost_ret (v:=.tuple #[.agg #[.int .i64 st,.slice z1 l.length y1,.slice av5 (d.length+1) cv5,.slice (some ⟨w5.heap.size,0,none⟩) 0 0],.bool true]) (by simp [results,Tryz.results57,go_sem,f1,f2,f3,f4]) rfl ?_;rw [HE.out]
 exact ⟨_,_,_,rfl,oF,bE.alloc bE.size _⟩
theorem zai2 (a1 a2 a3:Option Addr) (c1 c2 c3:Nat) (st:Int) (l:List Lg) (d u:List Dd) (x:Dd) (w:World) (hl:l.length≤1048576) (hd:d.length≤1048576) (hu:u.length≤1048576) (hs:RdB w a1 a2 a3 ⟨⟨st,l⟩,d,u⟩) :
 Calls Tryz.prog 57 #[.agg #[.int .i64 st,.slice a1 l.length c1,.slice a2 d.length c2,.slice a3 u.length c3],x.val] w (BkOut (bkDo ⟨⟨st,l⟩,d,u⟩ x) w):=by
 cases hv:bkOk ⟨⟨st,l⟩,d,u⟩
 · exact zarh a1 a2 a3 c1 c2 c3 st l d u x w hl hd hu hs hv
 · exact zata a1 a2 a3 c1 c2 c3 st l d u x w hl hd hu hs hv
end Go.Proofs.YthfoloefkfadlaaGreatDoor
