/- The law FnBookLines, walked: undone as often as anything was done, a book is at its beginning (written by wip/bin/gen_vb16.py). -/
import Derived.Test.YthfoloefkfadlaaGreatDoorMD
import Derived.Test.YthfoloefkfadlaaGreatDoorT1
import Derived.Test.YthfoloefkfadlaaGreatDoorME
import Derived.Test.YthfoloefkfadlaaGreatDoorB3
import Derived.Test.YthfoloefkfadlaaGreatDoorB1
import Derived.Test.YthfoloefkfadlaaGreatDoorT7
import Derived.Test.YthfoloefkfadlaaGreatDoorP2
set_option linter.unusedSimpArgs false
set_option linter.unusedVariables false
set_option maxHeartbeats 4000000
set_option maxRecDepth 100000
namespace Go.Proofs.YthfoloefkfadlaaGreatDoor
open Go Go.RowKit Go.Sort

open Go.RowKit
theorem zaja (a1 a2 a3:Option Addr) (c1 c2 c3:Nat) (w:World) :
 Calls Tryz.prog 13 #[.agg #[.int .i64 0,.slice a1 0 c1,.slice a2 0 c2,.slice a3 0 c3]] w fun e w'=>e=.returned (.bool true)∧Below w.heap.size w w':=by
 go_enter Tryz.func13,Tryz.ntmps13
 go_wp2_with fail;refine (zafk a1 a2 a3 none none none c1 c2 c3 0 0 0 0 0 [] [] [] [] [] [] _ qP qP qP qP qP qP ⟨.inl rfl,.inl rfl,.inl rfl⟩ ⟨.inl rfl,.inl rfl,.inl rfl⟩).mono ?_;rintro e w1 ⟨rfl,c⟩;rw [zadc rfl];go_wp2_with fail;go_ret
 exact ⟨rfl,Below.trans (by exact qHb) (Below.mono c qP)⟩
theorem zale {P:Program} {α:Type} [Inhabited α] {K:Kind α} {T t:TypeId} (I:KInfo P K T t) {w:World} {ops:Array Oper} {o:Oper} {a:Act} {K':Act→World→Prop} {Q:Exit→Act→World→Prop} {E:Prop} (s x:Operand) (hw:Region.wanted o (yielded ops a.tmps)=true)
 (hop:o.op=.call { callee:=.builtin .append,args:=#[s,x],argTypes:=#[t,t] }) (B:Nat) (v:Value) (xs ys zs:List α) (hz:xs ++ ys=zs) (A:Option Addr) (c:Nat) (hs:a.eval s=v)
 (hown:KOwn K T w B v xs) (hx:a.eval x=.slice A ys.length c) (hy:KRd K w A ys) (hl:xs.length≤2097160) (hl2:ys.length≤2097160) (hB:B≤w.heap.size)
 (hK:∀ av cv w',KOwn K T w' B (.slice av zs.length cv) zs→Below B w w'→K' (a.put o.dst (.slice av zs.length cv)) w') :
 if Region.wanted o (yielded ops a.tmps)=true then Oper.wp P o a w K' Q else E:=by
 subst hz;rw [if_pos hw];obtain ⟨av,cv,w',hr,h1,h2,h3,h4⟩:=zajo I o.type hown c hy hl hl2 hB;unfold Oper.wp execOp;simp only [hop,resolve,invoke,builtin,Sem.run_bind,Sem.run_pure,Result.andThen_ok,List.map_toArray,List.map_cons,List.map_nil,hs,hx,hr]
 exact hK av cv w' h1 h3
theorem Strs.dropH {w:World} {b off:Nat} {xs:List ByteArray} (h:Strs w (some ⟨b,off,none⟩) xs) (i:Nat):Strs w (some ⟨b,off+i,none⟩) (xs.drop i):=by
 have:=KRd.drop h i
 rwa [show i*strK.sz=i from Nat.mul_one i] at this
theorem zatt {t:ByteArray} (h:t.size≠0):t.toList.isEmpty=false:=by
 have h2:t.toList≠[]:=fun e=>h (by
  have:t.size=t.data.toList.length:=rfl
  rw [this,← Lib.toList_data,e];rfl)
 cases e:t.toList with
 | nil=>exact absurd e h2
 | cons _ _=>rfl
def BoxT (V:World) (b:Bk) (ts:List ByteArray) (p q:Value) (w:World):Prop:=∃ g a1 a2 a3 c1 c2 c3 ta tc,p=.pointer (some ⟨g,0,none⟩)∧q=.slice ta ts.length tc∧V.heap.size≤g∧At w g [.int .i64 b.first.st,.slice a1 b.first.legs.length c1,.slice a2 b.done.length c2,.slice a3 b.undone.length c3] ∧
 BkOwn w V.heap.size (.slice a1 b.first.legs.length c1) (.slice a2 b.done.length c2) (.slice a3 b.undone.length c3) b∧OwnT w V.heap.size (.slice ta ts.length tc) ts∧Below V.heap.size V w
theorem zaqn {V w:World} {b:Bk} {ts:List ByteArray} {a1 a2 a3 ta:Option Addr} {c1 c2 c3 tc B:Nat} {T:TypeId} (o:BkOwn w B (.slice a1 b.first.legs.length c1) (.slice a2 b.done.length c2) (.slice a3 b.undone.length c3) b) (t:OwnT w B (.slice ta ts.length tc) ts) (hB:V.heap.size≤B) (hb:Below V.heap.size V w) :
 BoxT V b ts (.pointer (some ⟨w.heap.size,0,none⟩)) (.slice ta ts.length tc) (w.alloc (.cells #[.int .i64 b.first.st,.slice a1 b.first.legs.length c1,.slice a2 b.done.length c2,.slice a3 b.undone.length c3] T)) :=
 ⟨_,a1,a2,a3,c1,c2,c3,ta,tc,rfl,rfl,hb.size,At.new _ _ _ rfl rfl,(o.alloc _).mono hB,(KOwn.alloc t _).mono hB,hb.alloc hb.size _⟩
theorem zaqo {V w:World} {b:Bk} {ts:List ByteArray} {a1 a2 a3 ta:Option Addr} {c1 c2 c3 tc B g:Nat} {u0 u1 u2 u3:Value} (A:At w g [u0,u1,u2,u3]) (hV:V.heap.size≤g) (o:BkOwn w B (.slice a1 b.first.legs.length c1) (.slice a2 b.done.length c2) (.slice a3 b.undone.length c3) b) (t:OwnT w B (.slice ta ts.length tc) ts) (hB:V.heap.size≤B) (hg:g<B) (hb:Below V.heap.size V w) :
 BoxT V b ts (.pointer (some ⟨g,0,none⟩)) (.slice ta ts.length tc) ((((w.setCell ⟨g,0,none⟩ (.int .i64 b.first.st)).setCell ⟨g,1,none⟩ (.slice a1 b.first.legs.length c1)).setCell ⟨g,2,none⟩ (.slice a2 b.done.length c2)).setCell ⟨g,3,none⟩ (.slice a3 b.undone.length c3)) :=
 ⟨_,a1,a2,a3,c1,c2,c3,ta,tc,rfl,rfl,hV,A.sets4 _ _ _ _,((((o.setCell (p:=⟨g,0,none⟩) hg _).setCell (p:=⟨g,1,none⟩) hg _).setCell (p:=⟨g,2,none⟩) hg _).setCell (p:=⟨g,3,none⟩) hg _).mono hB,
  ((((t.setCell (p:=⟨g,0,none⟩) hg _).setCell (p:=⟨g,1,none⟩) hg _).setCell (p:=⟨g,2,none⟩) hg _).setCell (p:=⟨g,3,none⟩) hg _).mono hB,
  (((hb.setCell (p:=⟨g,0,none⟩) hV _).setCell (p:=⟨g,1,none⟩) hV _).setCell (p:=⟨g,2,none⟩) hV _).setCell (p:=⟨g,3,none⟩) hV _⟩
theorem lawBookLines (a:Option Addr) (n c:Nat) (w:World) (hc:n≤c) (hn:n≤9223372036854775807) (hb:n≤1048576→Bytes w a n) (hpw:Lby w) :
 Calls Tryz.prog 3 #[.slice a n c] w fun e w'=>e=.returned (.bool true)∧Below w.heap.size w w':=by
 by_cases hbig:1048576<n
 · go_enter Tryz.func3,Tryz.ntmps3
   go_wp2_with fail;go_ret
   exact ⟨rfl,qBl⟩
 replace hb:=hb qO
 go_enter Tryz.func3,Tryz.ntmps3
 go_wp2_with fail;refine (zaii a n c w hc qO hb).mono ?_;rintro e w1 ⟨⟨⟨st,l⟩,d,u⟩,v1,v2,v3,gx,cx,ls,rfl,o,hsz,ot,hls41,hzs,bt⟩;obtain ⟨a1,c1,a2,c2,a3,c3,rfl,rfl,rfl⟩:=o.forms;simp only at o ⊢;have lb:=hpw.below bt;have hs:=o.kr;have hls:=ot.kr
 have hcx:ls.length≤cx:=by obtain ⟨_,_,e,h,_⟩:=KOwn.form ot;cases e;exact h
 have hcm:cx≤9223372036854775807:=by obtain ⟨_,_,e,_,h,_⟩:=KOwn.rd ot;cases e;exact h
 have hl:l.length≤10:=hsz.1;have hdu:d.length+u.length≤41:=hsz.2.1
 have hzk:∀ (ks:List ByteArray),(∀ t ∈ ks,t ∈ ls)→∀ k,k<ks.length→(nth ks k).size≤1048576:=fun ks hm k hk=>by have:=hzs _ (hm _ (zaaf hk));omega
 have HZK:=Lib.hid hzk;clear o ot hb hpw hn hc hsz hbig hzs hzk;obtain ⟨⟨⟨⟨rst,rl⟩,rd,ru⟩,rts⟩,hp⟩:=qN (linesTop ⟨⟨st,l⟩,d,u⟩ ls)
 have hlr:rl.length≤9∧rd.length≤40∧ru.length≤40∧rts.length≤40:=by have:=zaoe ⟨⟨st,l⟩,d,u⟩ ls;rw [hp] at this;exact this
 have KI:=Lib.hid (show ∀ (w':World),RdB w' a1 a2 a3 ⟨⟨st,l⟩,d,u⟩→Strs w' (some ⟨gx,0,none⟩) ls→Lby w'→Calls Tryz.prog 8 #[.agg #[.int .i64 st,.slice a1 l.length c1,.slice a2 d.length c2,.slice a3 u.length c3],.slice (some ⟨gx,0,none⟩) ls.length cx] w' (LnsOut (⟨⟨rst,rl⟩,rd,ru⟩,rts) w') from fun w' h h1 h2=>by
  have:=zaet a1 a2 a3 c1 c2 c3 st l d u (some ⟨gx,0,none⟩) cx ls w' qO qO qO qO (HZK.out ls (fun _ h=>h)) h h1 h2
  rw [hp] at this
  exact this)
 have KS:=Lib.hid (show ∀ (w':World),RdB w' a1 a2 a3 ⟨⟨st,l⟩,d,u⟩→Strs w' (some ⟨gx,0,none⟩) ls→Calls Tryz.prog 9 #[.agg #[.int .i64 st,.slice a1 l.length c1,.slice a2 d.length c2,.slice a3 u.length c3],.slice (some ⟨gx,0,none⟩) ls.length cx] w' (LnsOut (⟨⟨rst,rl⟩,rd,ru⟩,rts) w') from fun w' h h1=>by
  have:=zali a1 a2 a3 c1 c2 c3 st l d u (some ⟨gx,0,none⟩) cx ls w' qO qO qO qO (HZK.out ls (fun _ h=>h)) h h1
  rw [hp] at this
  exact this)
 have HP:=Lib.hid hp;clear hp;go_upto_region 4 with fail;obtain ⟨BB0,hY⟩:=qN (w1.heap.size);obtain ⟨w2,hV⟩:=qM (w1.alloc (.cells #[.int .i64 st,.slice a1 l.length c1,.slice a2 d.length c2,.slice a3 u.length c3] 28))
 have c:Below w1.heap.size w1 w2:=by rw [hV];exact qBl
 have B0:At w2 BB0 [.int .i64 st,.slice a1 l.length c1,.slice a2 d.length c2,.slice a3 u.length c3]:=by rw [hV];exact At.new _ _ _ hY.symm rfl
 rw [hY,← hV];clear hV hY;replace lb:=lb.below c;replace hs:=hs.below c;replace hls:=hls.below c;replace bt:=bt.trans (c.mono bt.size);clear c;obtain ⟨tB00,tB01,tB02,tB03,tB04,tB05⟩:=id B0.facts4;go_wp2_with fail;refine (KI.out _ hs hls lb).mono ?_;rintro e w3 ⟨v1T,v2T,v3T,vtT,rfl,oT,tT,c⟩;clear tB00 tB01 tB02 tB03 tB04 tB05;obtain ⟨xT1,yT1,xT2,yT2,xT3,yT3,rfl,rfl,rfl⟩:=oT.forms;obtain ⟨atT,ctT,rfl⟩:=KOwn.sl tT;simp only at oT tT ⊢;replace lb:=lb.below c;replace hs:=hs.below c;replace hls:=hls.below c;replace B0:=B0.below c;replace bt:=bt.trans (c.mono bt.size);clear c;go_upto_region 5 with fail;obtain ⟨BT0,hY⟩:=qN (w3.heap.size);obtain ⟨w4,hV⟩:=qM (w3.alloc (.cells #[.int .i64 rst,.slice xT1 rl.length yT1,.slice xT2 rd.length yT2,.slice xT3 ru.length yT3] 28))
 have c:Below w3.heap.size w3 w4:=by rw [hV];exact qBl
 have T0:At w4 BT0 [.int .i64 rst,.slice xT1 rl.length yT1,.slice xT2 rd.length yT2,.slice xT3 ru.length yT3]:=by rw [hV];exact At.new _ _ _ hY.symm rfl
 rw [hY,← hV];clear hV hY;replace lb:=lb.below c;replace hs:=hs.below c;replace hls:=hls.below c;replace B0:=B0.below c;replace oT:=oT.below c;replace tT:=tT.below c;replace bt:=bt.trans (c.mono bt.size);clear c;obtain ⟨tB00,tB01,tB02,tB03,tB04,tB05⟩:=id B0.facts4;go_wp2_with fail;refine (KS.out _ hs hls).mono ?_;rintro e w5 ⟨v1U,v2U,v3U,vtU,rfl,oU,tU,c⟩;clear tB00 tB01 tB02 tB03 tB04 tB05;obtain ⟨xU1,yU1,xU2,yU2,xU3,yU3,rfl,rfl,rfl⟩:=oU.forms;obtain ⟨atU,ctU,rfl⟩:=KOwn.sl tU;simp only at oU tU ⊢;replace lb:=lb.below c;replace hs:=hs.below c;replace hls:=hls.below c;replace B0:=B0.below c;replace oT:=oT.below c;replace tT:=tT.below c;replace T0:=T0.below c;replace bt:=bt.trans (c.mono bt.size);clear c;go_upto_region 6 with fail;obtain ⟨BU0,hY⟩:=qN (w5.heap.size);obtain ⟨w6,hV⟩:=qM (w5.alloc (.cells #[.int .i64 rst,.slice xU1 rl.length yU1,.slice xU2 rd.length yU2,.slice xU3 ru.length yU3] 28))
 have c:Below w5.heap.size w5 w6:=by rw [hV];exact qBl
 have U0:At w6 BU0 [.int .i64 rst,.slice xU1 rl.length yU1,.slice xU2 rd.length yU2,.slice xU3 ru.length yU3]:=by rw [hV];exact At.new _ _ _ hY.symm rfl
 rw [hY,← hV];clear hV hY;replace lb:=lb.below c;replace hs:=hs.below c;replace hls:=hls.below c;replace B0:=B0.below c;replace oT:=oT.below c;replace tT:=tT.below c;replace T0:=T0.below c;replace oU:=oU.below c;replace tU:=tU.below c;replace bt:=bt.trans (c.mono bt.size);clear c;clear KI KS;obtain ⟨tT00,tT01,tT02,tT03,tT04,tT05⟩:=id T0.facts4;obtain ⟨tU00,tU01,tU02,tU03,tU04,tU05⟩:=id U0.facts4;go_wp2_with fail;refine (zafk _ _ _ _ _ _ _ _ _ _ _ _ rst rst rl rl rd ru rd ru _ qO qO qO qO qO qO oT.kr oU.kr).mono ?_;rintro e w7 ⟨rfl,c⟩;clear tT00 tT01 tT02 tT03 tT04 tT05 tU00 tU01 tU02 tU03 tU04 tU05;rw [zadc rfl];replace lb:=lb.below c;replace hs:=hs.below c;replace hls:=hls.below c;replace B0:=B0.below c;replace oT:=oT.below c;replace tT:=tT.below c;replace T0:=T0.below c;replace oU:=oU.below c;replace tU:=tU.below c;replace U0:=U0.below c;replace bt:=bt.trans (c.mono bt.size);clear c;go_wp2_with fail;refine (zahf _ _ _ _ rts _ qO tT.kr tU.kr).mono ?_;rintro e w8 ⟨rfl,c⟩;replace lb:=lb.below c;replace hs:=hs.below c;replace hls:=hls.below c;replace B0:=B0.below c;replace oT:=oT.below c;replace tT:=tT.below c;replace T0:=T0.below c;replace oU:=oU.below c;replace tU:=tU.below c;replace U0:=U0.below c;replace bt:=bt.trans (c.mono bt.size);clear c;clear oU U0 tU
 cases hv:bkOk ⟨⟨st,l⟩,d,u⟩ with
 | false =>
   have hz:=zabz (b:=⟨⟨st,l⟩,d,u⟩) (ls:=ls) (by rw [hv];simp);rw [HP.out] at hz;simp only [Prod.mk.injEq,zeroBk,Bk.mk.injEq,Sv.mk.injEq] at hz;clear HP oT tT;obtain ⟨⟨⟨rfl,rfl⟩,rfl,rfl⟩,rfl⟩:=hz;simp only [List.length_nil] at T0;obtain ⟨tB00,tB01,tB02,tB03,tB04,tB05⟩:=id B0.facts4;go_wp2_with fail;refine (zaak a1 a2 a3 c1 c2 c3 st l d u _ qO qO qO hs).mono ?_;rintro e w9 ⟨rfl,c⟩;clear tB00 tB01 tB02 tB03 tB04 tB05;rw [hv];replace lb:=lb.below c;replace hs:=hs.below c;replace hls:=hls.below c;replace B0:=B0.below c;replace T0:=T0.below c;replace bt:=bt.trans (c.mono bt.size);clear c;clear hv;obtain ⟨tT00,tT01,tT02,tT03,tT04,tT05⟩:=id T0.facts4;go_wp2_with fail;refine (zaja _ _ _ _ _ _ _).mono ?_;rintro e w10 ⟨rfl,c⟩;clear tT00 tT01 tT02 tT03 tT04 tT05;replace lb:=lb.below c;replace hs:=hs.below c;replace hls:=hls.below c;replace B0:=B0.below c;replace T0:=T0.below c;replace bt:=bt.trans (c.mono bt.size);clear c;go_wp2_with fail;refine (zam0 _ lb.pow).mono ?_;rintro e w11 ⟨rfl,c⟩;replace lb:=lb.below c;replace hs:=hs.below c;replace hls:=hls.below c;replace B0:=B0.below c;replace T0:=T0.below c;replace bt:=bt.trans (c.mono bt.size);clear c;go_wp2_with fail;go_ret
   exact ⟨rfl,bt⟩
 | true =>
   by_cases hlg:ls.length≤40
   · have hlin:=HP.out
     rw [zacq hv hlg] at hlin;obtain ⟨H,hH⟩:=qN (ls.length / 2)
     have hH1:Int.tdiv (ls.length:Int) 2=(H:Int):=by rw [Int.tdiv_eq_ediv_of_nonneg qO];omega
     have hH2:IntKind.i64.wrap (H:Int)=(H:Int):=IntWalk.i64_in _ qO;have hHl:H≤ls.length:=qO
     have hl1:(ls.take H).length=H:=by rw [List.length_take];omega
     have hl2:(ls.drop H).length=ls.length - H:=by rw [List.length_drop]
     obtain ⟨⟨⟨⟨ast,al⟩,ad,au⟩,fts⟩,ha⟩:=qN (linesF ⟨⟨st,l⟩,d,u⟩ (ls.take H));have hao:=zafn (ls.take H) hv;rw [ha] at hao;have haok:bkOk ⟨⟨ast,al⟩,ad,au⟩=true:=hao.1;obtain ⟨⟨⟨⟨cst,cl⟩,cd,cu⟩,sts⟩,hcq⟩:=qN (linesF ⟨⟨ast,al⟩,ad,au⟩ (ls.drop H));have happ:=zago (ls.take H) (ls.drop H) ⟨⟨st,l⟩,d,u⟩;rw [List.take_append_drop,hlin,ha] at happ;simp only at happ;rw [hcq] at happ;simp only [Prod.mk.injEq,Bk.mk.injEq,Sv.mk.injEq] at happ;obtain ⟨⟨⟨rfl,rfl⟩,rfl,rfl⟩,hts⟩:=happ
     have hft:fts.length=H:=by have:=zac3 (ls.take H) ⟨⟨st,l⟩,d,u⟩;rw [ha] at this;rw [← hl1];exact this
     have hst:sts.length=ls.length - H:=by have:=zac3 (ls.drop H) ⟨⟨ast,al⟩,ad,au⟩;rw [hcq] at this;rw [← hl2];exact this
     have hal:=zab1 haok;simp only at hal;have hxk:=zafn ls hv;rw [hlin] at hxk;obtain ⟨hxo,hxf,hxn⟩:=hxk;simp only at hxo hxf hxn;obtain ⟨A2,hA2⟩:=qN ((if cx=H then (some ⟨gx,0,none⟩:Option Addr) else some ⟨gx,H,none⟩))
     have hdr:∀ w':World,Strs w' (some ⟨gx,0,none⟩) ls→Strs w' A2 (ls.drop H):=fun w' h=>by
      rw [← hA2]
      split
      · exact .inl (List.drop_eq_nil_of_le qO)
      · have:=Strs.dropH h H
        rwa [Nat.zero_add] at this
     have HDR:=Lib.hid hdr;clear hdr
     have KA:=Lib.hid (show ∀ (w':World),RdB w' a1 a2 a3 ⟨⟨st,l⟩,d,u⟩→Strs w' (some ⟨gx,0,none⟩) (ls.take H)→Lby w'→Calls Tryz.prog 8 #[.agg #[.int .i64 st,.slice a1 l.length c1,.slice a2 d.length c2,.slice a3 u.length c3],.slice (some ⟨gx,0,none⟩) H cx] w' (LnsOut (⟨⟨ast,al⟩,ad,au⟩,fts) w') from fun w' h h1 h2=>by
      have:=zaet a1 a2 a3 c1 c2 c3 st l d u (some ⟨gx,0,none⟩) cx (ls.take H) w' qO qO qO qO (HZK.out (ls.take H) (fun _ h=>List.mem_of_mem_take h)) h h1 h2
      rw [zacq hv qO] at this;rw [ha] at this;rw [hl1] at this
      exact this)
     have KC:=Lib.hid (show ∀ (p1 p2 p3:Option Addr) (q1 q2 q3:Nat) (w':World),RdB w' p1 p2 p3 ⟨⟨ast,al⟩,ad,au⟩→Strs w' A2 (ls.drop H)→Lby w'→Calls Tryz.prog 8 #[.agg #[.int .i64 ast,.slice p1 al.length q1,.slice p2 ad.length q2,.slice p3 au.length q3],.slice A2 (ls.length - H) (cx - H)] w' (LnsOut (⟨⟨rst,rl⟩,rd,ru⟩,sts) w') from fun p1 p2 p3 q1 q2 q3 w' h h1 h2=>by
      have:=zaet p1 p2 p3 q1 q2 q3 ast al ad au A2 (cx - H) (ls.drop H) w' qO qO qO qO (HZK.out (ls.drop H) (fun _ h=>List.mem_of_mem_drop h)) h h1 h2
      rw [zacq haok qO,hcq,hl2] at this
      exact this)
     have HTS:=Lib.hid hts;have HXN:=Lib.hid hxn;have HXF:=Lib.hid hxf;have HXO:=Lib.hid hxo;have HFT:=Lib.hid hft;have HST:=Lib.hid hst
     have hrn:rts.length=ls.length:=by rw [hts,List.length_append,hft,hst];omega
     have HRN:=Lib.hid hrn
     skip
     clear hlin ha hao haok hcq hts hxn hxf hxo hft hst hrn hl1 hl2 HP;obtain ⟨tB00,tB01,tB02,tB03,tB04,tB05⟩:=id B0.facts4;go_wp2_with fail;refine (zaak a1 a2 a3 c1 c2 c3 st l d u _ qO qO qO hs).mono ?_;rintro e w12 ⟨rfl,c⟩;clear tB00 tB01 tB02 tB03 tB04 tB05;rw [hv];replace lb:=lb.below c;replace hs:=hs.below c;replace hls:=hls.below c;replace B0:=B0.below c;replace oT:=oT.below c;replace tT:=tT.below c;replace T0:=T0.below c;replace bt:=bt.trans (c.mono bt.size);clear c;have HV:=Lib.hid hv;clear hv;have i0:(0:Int)≤(H:Int):=qO;have i1:(H:Int)≤(ls.length:Int):=qO;have i2:(H:Int)≤(cx:Int):=qO;have i3:H≤cx:=qO;have i4:(ls.length:Int)≤(cx:Int):=qO;obtain ⟨tB00,tB01,tB02,tB03,tB04,tB05⟩:=id B0.facts4;go_upto_region 11 with fail
     go_cut [10,11] (fun p10 p11 wx=>BoxT w12 ⟨⟨ast,al⟩,ad,au⟩ fts p10 p11 wx)
     case first =>
      go_region_held3 (fun w'=>Below w12.heap.size w12 w'∧∀ b o,b<w12.heap.size→w'.cell? ⟨b,o,none⟩=w12.cell? ⟨b,o,none⟩) (exact kept qHb)
       ((go_at_call 8;refine (KA.out _ (hs.below qHb) (KRd.take (hls.below qHb) H) (lb.below qHb)).mono ?_;rintro e wz ⟨vz1,vz2,vz3,vzt,rfl,oz,tz,c⟩;obtain ⟨az1,cz1,az2,cz2,az3,cz3,rfl,rfl,rfl⟩:=oz.forms;obtain ⟨azt,czt,rfl⟩:=KOwn.sl tz;have Bz:=zaae (V:=w12) qHb c;have zz:=Bz.size;(first|have hA0:=A0.lt|skip);(first|have A0:=A0.below c|have A0:=A0.drew.below c|have A0:=At.born c|have A0:=At.bornD c|skip);(first|obtain ⟨jz0,jz1,jz2,jz3,jz4,jz5⟩:=A0.facts4|skip);clear c))
      all_goals (go_wp2_with fail;go_meet)
      all_goals first|with_reducible exact zaqn (b:=⟨⟨ast,al⟩,ad,au⟩) oz tz qSo Bz|exact zaqo (b:=⟨⟨ast,al⟩,ad,au⟩) A0 qSo oz tz qSo (by first|exact hA0|simp) Bz
     case rest =>
      as_aux_lemma =>
       obtain ⟨ZA,pA1,pA2,pA3,qA1,qA2,qA3,eAt,sAt,rfl,rfl,hZA,A0,oA,tA,bb⟩:=hcut;simp only at A0 oA tA;clear tB00 tB01 tB02 tB03 tB04 tB05;replace lb:=lb.below bb;replace hs:=hs.below bb;replace hls:=hls.below bb;replace B0:=B0.below bb;replace oT:=oT.below bb;replace tT:=tT.below bb;replace T0:=T0.below bb;replace bt:=bt.trans (bb.mono bt.size);clear bb
       skip
       obtain ⟨tA00,tA01,tA02,tA03,tA04,tA05⟩:=id A0.facts4;go_upto_region 12 with fail
       go_cut [12,13] (fun p12 p13 wx=>BoxT wc ⟨⟨rst,rl⟩,rd,ru⟩ sts p12 p13 wx)
       case first =>
        go_region_held3 (fun w'=>Below wc.heap.size wc w'∧∀ b o,b<wc.heap.size→w'.cell? ⟨b,o,none⟩=wc.cell? ⟨b,o,none⟩) (exact kept qHb)
         ((go_at_call 8;refine (KC.out _ _ _ _ _ _ _ (oA.kr.below qHb) (HDR.out _ (hls.below qHb)) (lb.below qHb)).mono ?_;rintro e wz ⟨vz1,vz2,vz3,vzt,rfl,oz,tz,c⟩;obtain ⟨az1,cz1,az2,cz2,az3,cz3,rfl,rfl,rfl⟩:=oz.forms;obtain ⟨azt,czt,rfl⟩:=KOwn.sl tz;have Bz:=zaae (V:=wc) qHb c;have zz:=Bz.size;(first|have hA0:=A0.lt|skip);(first|have A0:=A0.below c|have A0:=A0.drew.below c|have A0:=At.born c|have A0:=At.bornD c|skip);(first|obtain ⟨jz0,jz1,jz2,jz3,jz4,jz5⟩:=A0.facts4|skip);clear c))
        all_goals (go_wp2_with fail;go_meet)
        all_goals first|with_reducible exact zaqn (b:=⟨⟨rst,rl⟩,rd,ru⟩) oz tz qSo Bz|exact zaqo (b:=⟨⟨rst,rl⟩,rd,ru⟩) A0 qSo oz tz qSo (by first|exact hA0|simp) Bz
       case rest =>
        as_aux_lemma =>
         obtain ⟨ZC,pC1,pC2,pC3,qC1,qC2,qC3,eCt,sCt,rfl,rfl,hZC,C0,oC,tC,bb⟩:=hcut;simp only at C0 oC tC;clear tA00 tA01 tA02 tA03 tA04 tA05;replace lb:=lb.below bb;replace hs:=hs.below bb;replace hls:=hls.below bb;replace B0:=B0.below bb;replace oT:=oT.below bb;replace tT:=tT.below bb;replace T0:=T0.below bb;replace A0:=A0.below bb;replace oA:=oA.below bb;replace tA:=tA.below bb;replace bt:=bt.trans (bb.mono bt.size);clear bb
         skip
         have hrn:=HRN.out;have hrn40:rts.length≤40:=hlr.2.2.2;clear hrn oA A0 KA KC hA2 HDR HFT HST;go_wp2_with fail
         go_loopw [14] (fun i wr=>∃ k:Nat,k≤rts.length∧i=.int .i64 (k:Int)∧wr=wc) (fun i _=>rts.length - (intOf i).toNat)
         case atStart=>exact ⟨0,by omega,by first|rfl|go_num,rfl⟩
         case round =>
          obtain ⟨k,hk,rfl,rfl⟩:=hrel
          by_cases hlt:k<rts.length
          · have hne:=zatt (HXN.out _ (zaaf hlt))
            have hlt2:(k:Int)<(rts.length:Int):=qO;obtain ⟨bb,off,ea,hbw,m0⟩:=Strs.at (KOwn.kr tT) hlt;subst ea;clear oT tT oC tC;go_wp2_with fail;go_roundw
            case rel=>exact ⟨k+1,by omega,by go_num,by trivial⟩
            case measure=>simp [intOf];omega
          · as_aux_lemma =>
             obtain rfl:k=rts.length:=qO;clear hlt hk;obtain ⟨tt,htt⟩:=qN (bookB ⟨⟨rst,rl⟩,rd,ru⟩)
             have htz:tt.size≤20000:=by have:=zavx ⟨⟨rst,rl⟩,rd,ru⟩;rw [htt] at this;exact this
             have hrd:=zat0 HXO.out;rw [htt] at hrd;simp only at hrd
             have KT:=Lib.hid (show ∀ (w':World),RdB w' xT1 xT2 xT3 ⟨⟨rst,rl⟩,rd,ru⟩→Pow w'→Calls Tryz.prog 16 #[.agg #[.int .i64 rst,.slice xT1 rl.length yT1,.slice xT2 rd.length yT2,.slice xT3 ru.length yT3]] w' (fun e w''=>e=.returned (.string tt)∧Below w'.heap.size w' w'') from fun w' h hp=>by
              have:=zaql xT1 xT2 xT3 yT1 yT2 yT3 rst rl rd ru w' qO qO qO h hp;rw [htt] at this
              exact this)
             have KR:=Lib.hid (show ∀ (w':World),Lby w'→Calls Tryz.prog 15 #[.string tt] w' (RkOut ((⟨⟨rst,rl⟩,rd,[]⟩,tt.size),true) w') from fun w' h=>by
              have:=zaqa tt w' qO h;rw [hrd] at this
              exact this)
             clear hrd htt;obtain ⟨tT00,tT01,tT02,tT03,tT04,tT05⟩:=id T0.facts4;go_wp2_with fail;refine (KT.out _ oT.kr lb.pow).mono ?_;rintro e w15 ⟨rfl,c⟩;clear tT00 tT01 tT02 tT03 tT04 tT05;replace lb:=lb.below c;replace hs:=hs.below c;replace hls:=hls.below c;replace B0:=B0.below c;replace oT:=oT.below c;replace tT:=tT.below c;replace T0:=T0.below c;replace tA:=tA.below c;replace C0:=C0.below c;replace oC:=oC.below c;replace tC:=tC.below c;replace bt:=bt.trans (c.mono bt.size);clear c;go_wp2_with fail;refine (KR.out _ lb).mono ?_;rintro e w16 ⟨r1v,r2v,r3v,rfl,oR,c⟩;obtain ⟨r1,s1,r2,s2,r3,s3,rfl,rfl,rfl⟩:=oR.forms;simp only [List.length_nil] at oR ⊢;replace lb:=lb.below c;replace hs:=hs.below c;replace hls:=hls.below c;replace B0:=B0.below c;replace oT:=oT.below c;replace tT:=tT.below c;replace T0:=T0.below c;replace tA:=tA.below c;replace C0:=C0.below c;replace oC:=oC.below c;replace tC:=tC.below c;replace bt:=bt.trans (c.mono bt.size);clear c;go_upto_region 19 with fail;obtain ⟨BR0,hY⟩:=qN (w16.heap.size);obtain ⟨w17,hV⟩:=qM (w16.alloc (.cells #[.int .i64 rst,.slice r1 rl.length s1,.slice r2 rd.length s2,.slice r3 0 s3] 28))
             have c:Below w16.heap.size w16 w17:=by rw [hV];exact qBl
             have R0:At w17 BR0 [.int .i64 rst,.slice r1 rl.length s1,.slice r2 rd.length s2,.slice r3 0 s3]:=by rw [hV];exact At.new _ _ _ hY.symm rfl
             rw [hY,← hV];clear hV hY;replace lb:=lb.below c;replace hs:=hs.below c;replace hls:=hls.below c;replace B0:=B0.below c;replace oT:=oT.below c;replace tT:=tT.below c;replace T0:=T0.below c;replace tA:=tA.below c;replace C0:=C0.below c;replace oC:=oC.below c;replace tC:=tC.below c;replace oR:=oR.below c;replace bt:=bt.trans (c.mono bt.size);clear c;clear KT KR;obtain ⟨tT00,tT01,tT02,tT03,tT04,tT05⟩:=id T0.facts4;go_upto_region 20 with fail;obtain ⟨BN,hY⟩:=qN (w17.heap.size);obtain ⟨w18,hV⟩:=qM (w17.alloc (.cells #[.int .i64 rst,.slice xT1 rl.length yT1,.slice xT2 rd.length yT2,.slice xT3 ru.length yT3] 28))
             have bN:Below w17.heap.size w17 w18:=by rw [hV];exact qBl
             have N0:At w18 BN [.int .i64 rst,.slice xT1 rl.length yT1,.slice xT2 rd.length yT2,.slice xT3 ru.length yT3]:=by rw [hV];exact At.new _ _ _ hY.symm rfl
             rw [hY,← hV];clear hV tT00 tT01 tT02 tT03 tT04 tT05;have hNr:=oT.kr.below bN;go_wp2_with fail
             go_loopw [19] (fun i wr=>∃ (k:Nat) (nst:Int) (nl:List Lg) (nd nu:List Dd) (n1 n2 n3:Option Addr) (m1 m2 m3:Nat),k≤rd.length∧i=.int .i64 (k:Int)∧undoN ⟨⟨rst,rl⟩,rd,ru⟩ k=⟨⟨nst,nl⟩,nd,nu⟩∧At wr BN [.int .i64 nst,.slice n1 nl.length m1,.slice n2 nd.length m2,.slice n3 nu.length m3]∧RdB wr n1 n2 n3 ⟨⟨nst,nl⟩,nd,nu⟩∧Below w17.heap.size w17 wr) (fun i _=>rd.length - (intOf i).toNat)
             case atStart=>exact ⟨0,rst,rl,rd,ru,xT1,xT2,xT3,yT1,yT2,yT3,by omega,by first|rfl|go_num,rfl,N0,hNr,bN⟩
             case round =>
              clear N0 hNr bN;obtain ⟨k,nst,nl,nd,nu,n1,n2,n3,m1,m2,m3,hk,rfl,hun,N0,hNr,bN⟩:=hrel;have hnk:=zagp HXO.out k hk;rw [hun] at hnk;have hnl:=zab1 hnk.1;simp only at hnl;obtain ⟨z,z0,z1,z2,z3,zf⟩:=id N0.facts4;obtain ⟨s,s0,s4,s5,s6,sf⟩:=id (T0.below bN).facts4
              by_cases hlt:k<rd.length
              · as_aux_lemma =>
                 have hyes:=zatv HXO.out hlt;rw [hun] at hyes;obtain ⟨⟨⟨pst,pl⟩,pd,pu⟩,hpn⟩:=qN (undoN ⟨⟨rst,rl⟩,rd,ru⟩ (k+1));rw [hpn] at hyes;have HPN:=Lib.hid hpn;have hlt2:(k:Int)<(rd.length:Int):=qO
                 have KU:=Lib.hid (show Calls Tryz.prog 17 #[.agg #[.int .i64 nst,.slice n1 nl.length m1,.slice n2 nd.length m2,.slice n3 nu.length m3]] wr (BkOut (⟨⟨pst,pl⟩,pd,pu⟩,true) wr) from by
                  have:=zahy n1 n2 n3 m1 m2 m3 nst nl nd nu wr qO qO qO hNr;rw [hyes] at this
                  exact this)
                 clear hyes hpn hnk hun;go_wp2_with fail;refine KU.out.mono ?_;rintro e wu ⟨v1u,v2u,v3u,rfl,oP,c⟩;obtain ⟨j1,i1,j2,i2,j3,i3,rfl,rfl,rfl⟩:=oP.forms;simp only at oP ⊢;have N1:=N0.below c;have bU:=bN.trans (c.mono bN.size);have hBN:BN<wr.heap.size:=N0.lt;have hWB:w17.heap.size≤BN:=qO;clear z z0 z1 z2 z3 zf s s0 s4 s5 s6 sf N0 c KU hNr;go_upto_region 24 with fail;obtain ⟨BP,hY2⟩:=qN (wu.heap.size);obtain ⟨wv,hV⟩:=qM (wu.alloc (.cells #[.int .i64 pst,.slice j1 pl.length i1,.slice j2 pd.length i2,.slice j3 pu.length i3] 28))
                 have c:Below wu.heap.size wu wv:=by rw [hV];exact qBl
                 have P0:At wv BP [.int .i64 pst,.slice j1 pl.length i1,.slice j2 pd.length i2,.slice j3 pu.length i3]:=by rw [hV];exact At.new _ _ _ hY2.symm rfl
                 rw [hY2,← hV]
                 have hPN:BN≠BP:=by have:=N1.lt;omega
                 replace N1:=N1.below c;replace oP:=oP.below c;replace bU:=bU.trans (c.mono bU.size);clear hV c hY2;obtain ⟨z,z0,z1,z2,z3,zf⟩:=id N1.facts4;obtain ⟨q,q0,q1,q2,q3,qf⟩:=id P0.facts4;have REL:=Lib.hid (And.intro (N1.sets4 (.int .i64 pst) (.slice j1 pl.length i1) (.slice j2 pd.length i2) (.slice j3 pu.length i3)) (And.intro (BkOwn.kr ((((oP.setCell (p:=⟨BN,0,none⟩) hBN (.int .i64 pst)).setCell (p:=⟨BN,1,none⟩) hBN (.slice j1 pl.length i1)).setCell (p:=⟨BN,2,none⟩) hBN (.slice j2 pd.length i2)).setCell (p:=⟨BN,3,none⟩) hBN (.slice j3 pu.length i3))) ((((bU.setCell (p:=⟨BN,0,none⟩) hWB (.int .i64 pst)).setCell (p:=⟨BN,1,none⟩) hWB (.slice j1 pl.length i1)).setCell (p:=⟨BN,2,none⟩) hWB (.slice j2 pd.length i2)).setCell (p:=⟨BN,3,none⟩) hWB (.slice j3 pu.length i3))));clear N1 P0 oP bU;go_wp2_with fail;go_roundw
                 case rel=>exact ⟨k+1,pst,pl,pd,pu,j1,j2,j3,i1,i2,i3,by omega,by go_num,HPN.out,REL.out.1,REL.out.2.1,REL.out.2.2⟩
                 case measure=>simp [intOf];omega
              · as_aux_lemma =>
                 obtain rfl:k=rd.length:=qO;have hend:=zatw HXO.out;rw [hun] at hend;rw [show (⟨⟨rst,rl⟩,rd,ru⟩:Bk).first=(⟨st,l⟩:Sv) from HXF.out] at hend;replace lb:=lb.below bN;replace hs:=hs.below bN;replace hls:=hls.below bN;replace B0:=B0.below bN;replace oT:=oT.below bN;replace tT:=tT.below bN;replace T0:=T0.below bN;replace tA:=tA.below bN;replace C0:=C0.below bN;replace oC:=oC.below bN;replace tC:=tC.below bN;replace oR:=oR.below bN;replace R0:=R0.below bN;replace bt:=bt.trans (bN.mono bt.size);clear bN s s0 s4 s5 s6 sf hk hlt hnk hun;obtain ⟨⟨mst,ml⟩,hM⟩:=qN (bkNow ⟨⟨rst,rl⟩,rd,ru⟩)
                 have hml:ml.length≤9:=by have:=zahx ⟨⟨rst,rl⟩,rd,ru⟩;rw [hM] at this;exact this
                 have hnr:=zavw HXO.out;rw [hM] at hnr;simp only at hnr
                 have K1:=Lib.hid (show ∀ (w':World),RdB w' r1 r2 r3 ⟨⟨rst,rl⟩,rd,[]⟩→Calls Tryz.prog 19 #[.agg #[.int .i64 rst,.slice r1 rl.length s1,.slice r2 rd.length s2,.slice r3 0 s3]] w' (SvRet ⟨mst,ml⟩ w') from fun w' h=>by
                  have:=zadg r1 r2 r3 s1 s2 s3 rst rl rd [] w' qO qO qP h;rw [hnr] at this
                  exact this)
                 have K2:=Lib.hid (show ∀ (w':World),RdB w' xT1 xT2 xT3 ⟨⟨rst,rl⟩,rd,ru⟩→Calls Tryz.prog 19 #[.agg #[.int .i64 rst,.slice xT1 rl.length yT1,.slice xT2 rd.length yT2,.slice xT3 ru.length yT3]] w' (SvRet ⟨mst,ml⟩ w') from fun w' h=>by
                  have:=zadg xT1 xT2 xT3 yT1 yT2 yT3 rst rl rd ru w' qO qO qO h;rw [hM] at this
                  exact this)
                 have K3:=Lib.hid (show ∀ (w':World),RdB w' n1 n2 n3 ⟨⟨nst,nl⟩,nd,nu⟩→Calls Tryz.prog 19 #[.agg #[.int .i64 nst,.slice n1 nl.length m1,.slice n2 nd.length m2,.slice n3 nu.length m3]] w' (SvRet ⟨st,l⟩ w') from fun w' h=>by
                  have:=zadg n1 n2 n3 m1 m2 m3 nst nl nd nu w' qO qO qO h;rw [hend] at this
                  exact this)
                 have KB:=Lib.hid (show ∀ (w':World),RdB w' pC1 pC2 pC3 ⟨⟨rst,rl⟩,rd,ru⟩→RdB w' xT1 xT2 xT3 ⟨⟨rst,rl⟩,rd,ru⟩→Calls Tryz.prog 10 #[.agg #[.int .i64 rst,.slice pC1 rl.length qC1,.slice pC2 rd.length qC2,.slice pC3 ru.length qC3],.agg #[.int .i64 rst,.slice xT1 rl.length yT1,.slice xT2 rd.length yT2,.slice xT3 ru.length yT3]] w' (fun e w''=>e=.returned (.bool true)∧Below w'.heap.size w' w'') from fun w' h h1=>by
                  have:=zafk pC1 pC2 pC3 xT1 xT2 xT3 qC1 qC2 qC3 yT1 yT2 yT3 rst rst rl rl rd ru rd ru w' qO qO qO qO qO qO h h1;rw [zadc rfl] at this
                  exact this)
                 have KX:=Lib.hid (show ∀ (av:Option Addr) (cv:Nat) (w':World),Strs w' av rts→Strs w' atT rts→Calls Tryz.prog 11 #[.slice av rts.length cv,.slice atT rts.length ctT] w' (fun e w''=>e=.returned (.bool true)∧Below w'.heap.size w' w'') from fun av cv w' h h1=>zahf av atT cv ctT rts w' qO h h1)
                 have KV:=Lib.hid (show ∀ (p1 p2:Option Addr) (q1 q2:Nat) (w':World),Legs w' p1 ml→Legs w' p2 ml→Calls Tryz.prog 18 #[.agg #[.int .i64 mst,.slice p1 ml.length q1],.agg #[.int .i64 mst,.slice p2 ml.length q2]] w' (fun e w''=>e=.returned (.bool true)∧Below w'.heap.size w' w'') from fun p1 p2 q1 q2 w' h h1=>by
                  have:=zaee p1 p2 q1 q2 mst mst ml ml w' qO qO h h1;rw [zadc rfl] at this
                  exact this)
                 have KW:=Lib.hid (show ∀ (p1:Option Addr) (q1:Nat) (w':World),Legs w' p1 l→Legs w' a1 l→Calls Tryz.prog 18 #[.agg #[.int .i64 st,.slice p1 l.length q1],.agg #[.int .i64 st,.slice a1 l.length c1]] w' (fun e w''=>e=.returned (.bool true)∧Below w'.heap.size w' w'') from fun p1 q1 w' h h1=>by
                  have:=zaee p1 a1 q1 c1 st st l l w' qO qO h h1;rw [zadc rfl] at this
                  exact this)
                 have hg1:((rts.length:Int) == (ls.length:Int))=true:=by rw [HRN.out];simp
                 have hg2:decide ((rts.length:Int)=(ls.length:Int))=true:=by rw [HRN.out];simp
                 have hg3:decide (rts.length=ls.length)=true:=decide_eq_true HRN.out;have hcr:=oC.kr;have htr:=oT.kr;have hrr:=oR.kr;have hfr:=KOwn.kr tA;have hsr:=KOwn.kr tC;have har:=KOwn.kr tT
                 have hfl:fts.length≤40∧sts.length≤40:=by have h1:=congrArg List.length HTS.out;rw [List.length_append] at h1;omega
                 obtain ⟨xc,xc0,xc1,xc2,xc3,xcf⟩:=id C0.facts4;obtain ⟨xt,xt0,xt1,xt2,xt3,xtf⟩:=id T0.facts4;obtain ⟨xu,xu0,xu1,xu2,xu3,xuf⟩:=id R0.facts4;obtain ⟨xb,xb0,xb1,xb2,xb3,xbf⟩:=id B0.facts4;clear hnr hM hend oC oT oR tC tT tA C0 T0 R0 N0 B0 hls;go_upto_region 27 with fail
                 go_region_held3 (fun w'=>Below wr.heap.size wr w'∧∀ b o,b<wr.heap.size→w'.cell? ⟨b,o,none⟩=wr.cell? ⟨b,o,none⟩) (exact kept qHb)
                  (first
                  | (go_at_call 10;(with_reducible refine (KB.out _ (hcr.below qHb) (htr.below qHb)).mono ?_);rintro e wz ⟨rfl,c⟩;have Bz:=zaae (V:=wr) qHb c;have zz:=Bz.size;clear c)
                  | (refine zale strI (.tmp 127) (.tmp 128) (by rfl) (by rfl) wr.heap.size _ [] fts fts rfl eAt sAt (by rfl) (KOwn.lit _ _ qSo) (by rfl) (hfr.below qHb) qP qO (by first|omega|(simp;omega)) ?_;rintro av5 cv5 w5 o5 b5;have B5:Below wr.heap.size wr w5:=Below.trans (by exact qHb) b5;have z5:=B5.size;clear b5)
                  | (refine zale strI (.tmp 129) (.tmp 130) (by rfl) (by rfl) wr.heap.size _ fts sts rts HTS.out.symm eCt sCt (by rfl) o5 (by rfl) (hsr.below qHb) qO qO qO ?_;rintro av6 cv6 w6 o6 b6;have B6:Below wr.heap.size wr w6:=B5.trans b6;have z6:=B6.size;clear b6)
                  | (go_at_call 11;(with_reducible refine (KX.out _ _ _ (KOwn.kr o6) (har.below qHb)).mono ?_);rintro e wx ⟨rfl,c⟩;have Bx:=zaae (V:=wr) qHb c;have zx:=Bx.size;clear c)
                  | (go_at_call 19;(with_reducible refine (K1.out _ (hrr.below qHb)).mono ?_);rintro e wa ⟨va,rfl,oa,c⟩;obtain ⟨aa,ca,rfl⟩:=oa.sl;have Ba:=zaae (V:=wr) qHb c;have za:=Ba.size;(first|have ob:=KOwn.below ob c|skip);clear c)
                  | (go_at_call 19;(with_reducible refine (K2.out _ (htr.below qHb)).mono ?_);rintro e wb ⟨vb,rfl,ob,c⟩;obtain ⟨ab,cb,rfl⟩:=ob.sl;have Bb:=zaae (V:=wr) qHb c;have zb:=Bb.size;(first|have oa:=KOwn.below oa c|skip);clear c)
                  | (go_at_call 19;(with_reducible refine (K3.out _ (hNr.below qHb)).mono ?_);rintro e wd ⟨vd,rfl,od,c⟩;obtain ⟨ae,ce,rfl⟩:=od.sl;have Bd:=zaae (V:=wr) qHb c;have zd:=Bd.size;clear c)
                  | (go_at_call 18;(with_reducible refine (KV.out _ _ _ _ _ (KOwn.kr oa) (KOwn.kr ob)).mono ?_);rintro e we ⟨rfl,c⟩;have Be:=zaae (V:=wr) qHb c;have ze:=Be.size;clear c)
                  | (go_at_call 18;(with_reducible refine (KW.out _ _ _ (KOwn.kr od) (hs.l.below qHb)).mono ?_);rintro e wf ⟨rfl,c⟩;have Bf:=zaae (V:=wr) qHb c;have zf:=Bf.size;clear c))
                 all_goals
                  go_wp2_with fail;go_ret
                  exact ⟨rfl,Below.trans bt (Below.mono (show Below wr.heap.size wr _ from by exact qHb) bt.size)⟩
   · have hz:=zabz (b:=⟨⟨st,l⟩,d,u⟩) (ls:=ls) (fun h=>hlg h.2)
     rw [HP.out] at hz;simp only [Prod.mk.injEq,zeroBk,Bk.mk.injEq,Sv.mk.injEq] at hz;clear HP oT tT;obtain ⟨⟨⟨rfl,rfl⟩,rfl,rfl⟩,rfl⟩:=hz;simp only [List.length_nil] at T0;obtain ⟨tB00,tB01,tB02,tB03,tB04,tB05⟩:=id B0.facts4;go_wp2_with fail;refine (zaak a1 a2 a3 c1 c2 c3 st l d u _ qO qO qO hs).mono ?_;rintro e w19 ⟨rfl,c⟩;clear tB00 tB01 tB02 tB03 tB04 tB05;rw [hv];replace lb:=lb.below c;replace hs:=hs.below c;replace hls:=hls.below c;replace B0:=B0.below c;replace T0:=T0.below c;replace bt:=bt.trans (c.mono bt.size);clear c;clear hv;obtain ⟨tT00,tT01,tT02,tT03,tT04,tT05⟩:=id T0.facts4;go_wp2_with fail;refine (zaja _ _ _ _ _ _ _).mono ?_;rintro e w20 ⟨rfl,c⟩;clear tT00 tT01 tT02 tT03 tT04 tT05;replace lb:=lb.below c;replace hs:=hs.below c;replace hls:=hls.below c;replace B0:=B0.below c;replace T0:=T0.below c;replace bt:=bt.trans (c.mono bt.size);clear c;go_wp2_with fail;refine (zam0 _ lb.pow).mono ?_;rintro e w21 ⟨rfl,c⟩;replace lb:=lb.below c;replace hs:=hs.below c;replace hls:=hls.below c;replace B0:=B0.below c;replace T0:=T0.below c;replace bt:=bt.trans (c.mono bt.size);clear c;go_wp2_with fail;go_ret
     exact ⟨rfl,bt⟩
end Go.Proofs.YthfoloefkfadlaaGreatDoor
