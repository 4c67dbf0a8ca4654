/- Walks: spec.DeedDo, a leg put in or dropped (the theorems are written by wip/bin/gen_g12.py). -/
import Derived.Test.YthfoloefkfadlaaGreatDoorK6
import Derived.Test.YthfoloefkfadlaaGreatDoorK5
set_option linter.unusedSimpArgs false
set_option linter.unusedVariables false
set_option maxHeartbeats 2000000
set_option maxRecDepth 100000
namespace Go.Proofs.YthfoloefkfadlaaGreatDoor
open Go Go.RowKit Go.Sort
theorem zapi (a:Option Addr) (c:Nat) (st:Int) (l:List Lg) (i:Nat) (hi:i<l.length) (hl9:l.length≤9) (g:Lg) (w:World) (hl:l.length≤1048576) (hs:Legs w a l) (hv:svOk ⟨st,l⟩=true) (hin:ddIn ⟨1,(i:Int),g⟩=true) (hth:inB (i:Int) 0 ((l.length:Int) - 1)=true) (hlc:l.length≤c) (hc63:c≤9223372036854775807) (ht:ddTry ⟨st,l⟩ ⟨1,(i:Int),g⟩=some ⟨st,l.take i ++ l.drop (i+1)⟩) :
 Calls Tryz.prog 86 #[.agg #[.int .i64 st,.slice a l.length c],(⟨1,(i:Int),g⟩:Dd).val] w (SvOut (ddDo ⟨st,l⟩ ⟨1,(i:Int),g⟩) w):=by
 obtain ⟨bl,off,hae,hblw,-⟩:=Legs.at hs hi
 cases hae
 obtain ⟨x1,x2,x3,x4,x5⟩:=g
 show Calls Tryz.prog 86 #[.agg #[.int .i64 st,.slice (some ⟨bl,off,none⟩) l.length c],.agg #[.int .i64 1,.int .i64 (i:Int),.int .i64 x1,.int .i64 x2,.int .i64 x3,.int .i64 x4,.int .i64 x5]] w _
 obtain ⟨zs,hzs⟩:=qN (l.take i ++ l.drop (i+1));rw [hzs] at ht;have HZ:=Lib.hid hzs
 have hlz:zs.length≤1048576:=by rw [← hzs];simp;omega
 obtain ⟨p,hp⟩:=qM (l.take i)
 have HPL:Hid (p.length=i):=by show _=_;rw [hp];simp;omega
 obtain ⟨q,hq⟩:=qM (l.drop (i+1))
 have HQL:Hid (q.length=l.length - (i+1)):=by show _=_;rw [hq];simp
 have HPQ:Hid (p ++ q=zs):=by show _=_;rw [hp,hq];exact hzs
 obtain ⟨A,HA,hrq⟩:∃ A:Addr,Hid ((if c=i+1 then (some ⟨bl,off,none⟩:Option Addr) else some ⟨bl,off+(i+1)*5,none⟩)=some A)∧Legs w (some A) q:=by
  by_cases h:c=i+1
  · exact ⟨_,by show _=_;rw [if_pos h],.inl (by rw [hq];exact List.drop_eq_nil_of_le qO)⟩
  · exact ⟨_,by show _=_;rw [if_neg h],by rw [hq];exact hs.drop (i+1)⟩
 have hrp:Legs w (some ⟨bl,off,none⟩) p:=by rw [hp];exact hs.take i
 clear hzs hp hq
 go_enter Tryz.func86,Tryz.ntmps86
 go_wp2_with fail;obtain ⟨X,hX⟩:=qN (w.heap.size);obtain ⟨W0,hW0⟩:=qM (((w.alloc (.cells #[.int .i64 st,.slice (some ⟨bl,off,none⟩) l.length c] 25)).alloc (.cells #[.int .i64 1,.int .i64 (i:Int),.int .i64 x1,.int .i64 x2,.int .i64 x3,.int .i64 x4,.int .i64 x5] 82)).alloc (.cells #[.int .i64 0,.slice none 0 0] 25))
 have F0:Fr W0 X st (.slice (some ⟨bl,off,none⟩) l.length c) ⟨1,(i:Int),⟨x1,x2,x3,x4,x5⟩⟩:=by rw [hW0,← hX];exact Fr.new w st _ ⟨1,(i:Int),⟨x1,x2,x3,x4,x5⟩⟩ _ _ _
 have b0:Below w.heap.size w W0:=by rw [hW0];exact qBl
 rw [hX,← hW0];clear hW0;refine (zaaa _ _ st l _ hl (hs.below b0)).mono ?_;rintro e w1 ⟨rfl,b1⟩;rw [hv];replace F0:=F0.below b1;replace b0:=b0.trans (b1.mono b0.size);clear b1 W0;obtain ⟨s0,s1,s2,-,-⟩:=F0.s;go_wp2_with fail;clear s0 s1 s2;have hX1:=F0.r.lt;refine (zaah _ _ st l _ hl (hs.below b0)).mono ?_;rintro e w2 ⟨v,rfl,o1,b1⟩;obtain ⟨av,cv,rfl⟩:=o1.sl;replace F0:=F0.below b1;have bw2:=b0.trans (b1.mono b0.size);have hB1:w1.heap.size≤w2.heap.size:=b1.size;have hBw:=b0.size
 have hoY:∀ k,(Value.slice av l.length cv).ownBlock=some k→k<w2.heap.size:=fun k hk=>(o1.lt hk).2
 clear b1;obtain ⟨d0,d1,d2,d3,d4,d5,d6,d7⟩:=F0.d;simp only at d1 d2 d3 d4 d5 d6 d7;go_wp2_with fail;obtain ⟨Y,hY⟩:=qN (w2.heap.size);obtain ⟨W3,hW3⟩:=qM (w2.alloc (.cells #[.int .i64 st,.slice av l.length cv] 25))
 have A0:AtS W3 Y st (.slice av l.length cv):=by rw [hW3,← hY];exact AtS.new w2 st _ _
 have b3:Below w2.heap.size w2 W3:=by rw [hW3];exact qBl
 rw [hY,← hW3];clear hW3 d0 d1 d2 d3 d4 d5 d6 d7;replace F0:=F0.below b3;replace o1:=o1.below b3;replace bw2:=bw2.trans (b3.mono bw2.size);rw [hY] at hB1 hoY;clear b3 b0 hY w2;refine (zaa5 ⟨1,(i:Int),⟨x1,x2,x3,x4,x5⟩⟩ _).mono ?_;rintro e W4 ⟨rfl,hgr⟩;rw [hin];replace F0:=F0.below hgr;replace A0:=A0.below hgr;replace o1:=o1.below hgr;replace bw2:=bw2.trans (hgr.mono bw2.size);clear hgr W3;obtain ⟨s0,s1,s2,-,-⟩:=F0.s;obtain ⟨d0,d1,d2,d3,d4,d5,d6,d7⟩:=F0.d;simp only at d1 d2 d3 d4 d5 d6 d7;go_wp2_with fail;refine (zaac ((i:Int)) 0 ((l.length:Int) - 1) _).mono ?_;rintro e W4' ⟨rfl,hww⟩;obtain rfl:=hww;rw [hth];obtain ⟨a0,a1,a2,a3,a4⟩:=id A0;have hXl:X<W4.heap.size:=s0;have hX1l:X+1<W4.heap.size:=d0;have hYl:Y<W4.heap.size:=a0;have hiw:IntKind.i64.wrap ((i:Int)+1)=(i:Int)+1:=IntWalk.i64_in _ qO;have hb1:(0:Int)≤(i:Int)+1:=qO;have htn:((i:Int)+1).toNat=i+1:=qO;have hb5:i≤c:=qO;have hb6:i+1≤c:=qO;have hb7:i+1≤l.length:=qO;have hb8:(i:Int)+1≤(l.length:Int):=qO;have ne1:X≠Y:=qO;have ne2:X+1≠Y:=qO;replace hrp:=hrp.below bw2;replace hrq:=hrq.below bw2;go_wp2_with fail
 go_region_held3 (fun w'=>w'.cell? ⟨X,1,none⟩=some (.slice (some ⟨bl,off,none⟩) l.length c)∧w'.cell? ⟨X+1,1,none⟩=some (.int .i64 (i:Int))) (first|go_keep|exact ⟨by (repeat rw [World.cell?_setCell_other _ _ _ _ (by intro h;injection h;omega)]);assumption,by (repeat rw [World.cell?_setCell_other _ _ _ _ (by intro h;injection h;omega)]);assumption⟩)
  (first
  | (refine zaa6 legI (.tmp 64) (.tmp 69) (by rfl) (by rfl) W4.heap.size _ [] p p rfl i HPL.out (some ⟨bl,off,none⟩) c (by rfl) (KOwn.lit _ _ qSo) (by rfl) (hrp.below (by repeat (first|exact Below.refl _ _|refine Below.drew ?_|refine Below.alloc ?_ qSo _))) qP (by rw [HPL.out];omega) qSo ?_;rintro av1 cv1 w5 o5 - b5;have b45:Below W4.heap.size W4 w5:=Below.trans (by repeat (first|exact Below.refl _ _|refine Below.drew ?_|refine Below.alloc ?_ qSo _)) b5;have s2':=(b45.cell (p:=⟨X,1,none⟩) hXl).trans s2;have d2':=(b45.cell (p:=⟨X+1,1,none⟩) hX1l).trans d2;clear b5)
  | (refine zaa6 legI (.tmp 70) (.tmp 76) (by rfl) (by rfl) W4.heap.size _ p q zs HPQ.out (l.length - (i+1)) HQL.out (some A) (c - (i+1)) (by rfl) o5 (by simp [Act.eval,Act.put,HA.out]) (hrq.below b45) (by rw [HPL.out];omega) (by rw [HQL.out];omega) (b45.size) ?_;rintro az cz w6 o6 - b6;have b46:Below W4.heap.size W4 w6:=b45.trans b6;have s2'':=(b46.cell (p:=⟨X,1,none⟩) hXl).trans s2;have d2'':=(b46.cell (p:=⟨X+1,1,none⟩) hX1l).trans d2;have a2'':=(b46.cell (p:=⟨Y,1,none⟩) hYl).trans a2;have a4'':=(b46.frozen (p:=⟨Y,1,none⟩) hYl).trans a4;clear b6))
 all_goals
  clear hiw hb1 htn hb5 hb6 hb7 hb8 ne1 ne2 hrp hrq s0 s1 s2 d0 d1 d2 d3 d4 d5 d6 d7 a0 a1 a2 a3 a4 s2' d2' s2'' d2'';clear o5 b45;replace F0:=F0.belowB b46 qO;have A1:=A0.belowB b46 hYl;have bw4:=bw2.trans (b46.mono bw2.size)
  have hYn:(Value.slice az zs.length cz).ownBlock≠some Y:=fun h=>by have:=(o6.lt h).1;omega
  clear b46;clear a2'' a4'';obtain ⟨z0,z1,z2,z3,z4⟩:=id A1;go_wp2_with fail
 all_goals
  obtain ⟨W5,hW5⟩:=qM (w6.setCell ⟨Y,1,none⟩ (.slice az zs.length cz));rw [← hW5]
  have b5:Below w1.heap.size w6 W5:=by rw [hW5];exact (Below.refl _ _).setCell (by show _≤Y;omega) _
  have F5:=F0.belowB b5 hX1
  have A5:AtS W5 Y st (.slice az zs.length cz):=by rw [hW5];exact A1.set1 _
  have o5:OwnL W5 w1.heap.size (.slice az zs.length cz) zs:=by rw [hW5];exact (o6.setOther (p:=⟨Y,1,none⟩) hYn _).mono qO
  have bw5:=bw4.trans (b5.mono hBw);clear hW5 b5 A1 bw4 o6 F0 A0 o1 bw2 z0 z1 z2 z3 z4;have hlz:zs.length≤1048576:=hlz;obtain ⟨s0,s1,s2,-,-⟩:=F5.s;have HT:=Lib.hid ht;clear ht;refine (zaaa _ _ (st) zs _ hlz (by obtain ⟨_,_,e,_,_,hr⟩:=o5.rd;cases e;exact hr)).mono ?_;rintro e w6 ⟨rfl,b6⟩;clear s0 s1 s2
  cases hk:svOk ⟨st,zs⟩
  · replace F5:=F5.below b6
    replace bw5:=bw5.trans (b6.mono bw5.size);clear b6 o5 A5;obtain ⟨s0,s1,s2,-,-⟩:=F5.s;go_wp2_with fail;refine (zaah _ _ st l _ hl (hs.below bw5)).mono ?_;rintro e w7 ⟨v7,rfl,o7,b7⟩;obtain ⟨a7,c7,rfl⟩:=o7.sl;clear s0 s1 s2;have hX7:=F5.r.lt;have hB7:=bw5.size;replace F5:=F5.below b7;replace bw5:=bw5.trans (b7.mono bw5.size);obtain ⟨r0,r1,r2,r3,r4⟩:=F5.r;clear b7 F5;go_wp2_with fail;have oF:=((o7.setCell (p:=⟨X+1+1,0,none⟩) hX7 (.int .i64 st)).setCell (p:=⟨X+1+1,1,none⟩) hX7 (.slice a7 l.length c7)).mono hB7;have bF:Below w.heap.size w ((w7.setCell ⟨X+1+1,0,none⟩ (.int .i64 st)).setCell ⟨X+1+1,1,none⟩ (.slice a7 l.length c7)):=(bw5.setCell (by show _≤X+1+1;omega) _).setCell (by show _≤X+1+1;omega) _;refine bodyPost_ret (v:=.tuple #[.agg #[.int .i64 st,.slice a7 l.length c7],.bool false]) (by simp [results,Tryz.results86,go_sem,r1,r2]) rfl ?_;rw [zaa2 hv HT.out hk]
    exact ⟨_,rfl,oF,bF⟩
  · replace F5:=F5.below b6
    replace bw5:=bw5.trans (b6.mono bw5.size);replace o5:=o5.below b6;replace A5:=A5.below b6;clear b6;obtain ⟨r0,r1,r2,r3,r4⟩:=F5.r;obtain ⟨a0,a1,a2,a3,a4⟩:=A5;go_wp2_with fail;have oF:=((o5.setCell (p:=⟨X+1+1,0,none⟩) hX1 (.int .i64 (st))).setCell (p:=⟨X+1+1,1,none⟩) hX1 (.slice az zs.length cz)).mono hBw;have bF:Below w.heap.size w ((w6.setCell ⟨X+1+1,0,none⟩ (.int .i64 (st))).setCell ⟨X+1+1,1,none⟩ (.slice az zs.length cz)):=(bw5.setCell (by show _≤X+1+1;omega) _).setCell (by show _≤X+1+1;omega) _;refine bodyPost_ret (v:=.tuple #[.agg #[.int .i64 (st),.slice az zs.length cz],.bool true]) (by simp [results,Tryz.results86,go_sem,r1,r2]) rfl ?_;rw [zaa9 hv HT.out hk]
    exact ⟨_,rfl,oF,bF⟩
theorem zaxz (w:World) (a b:Obj):((w.alloc a).alloc b).heap[w.heap.size]?=some a:=(Deep.blk_alloc_lt _ _ _ qP).trans (Deep.blk_alloc_new _ _)
theorem zako (w:World) (o:Obj) (k:Nat) (hk:k=w.heap.size):(w.alloc o).heap[k]?=some o:=by subst hk;exact Deep.blk_alloc_new _ _
theorem zapj (w w5:World) (a x:Obj) (r:Option Nat) (g:((w.alloc a).alloc x).drew.grownBy w5 r) (hr:r=some w.heap.size):w5.heap[w.heap.size+1]?=some x :=
 (g.block _ qP (by rw [hr];simp)).trans (zako (w.alloc a) x _ qP)
theorem zapk (w w5:World) (a x:Obj) (r:Option Nat) (g:((w.alloc x).alloc a).drew.grownBy w5 r) (hr:r=some (w.heap.size+1)):w5.heap[w.heap.size]?=some x :=
 (g.block _ (by simp;omega) (by rw [hr];simp)).trans (zaxz w x a)
theorem litAt (w:World) (B b:Nat) (hB:B≤w.heap.size) (hb:b=w.heap.size):OwnL (w.alloc (.cells #[] 75)) B (.slice (some ⟨b,0,none⟩) 0 0) []:=by subst hb;exact KOwn.lit w B hB
theorem zae7 (w:World) (b:Nat) (x:Lg) (T:TypeId) (h:w.heap[b]?=some (.cells #[.int .i64 x.frm,.int .i64 x.to,.int .i64 x.east,.int .i64 x.north,.int .i64 x.up] T (0,0))):Legs w (some ⟨b,0,none⟩) [x]:=by
 refine KRd.mk (Array.getElem?_eq_some_iff.1 h).1 fun j u hj=>?_
 rw [Nat.zero_add]
 have hr:w.rowIs b T 5 (fun j=>(#[.int .i64 x.frm,.int .i64 x.to,.int .i64 x.east,.int .i64 x.north,.int .i64 x.up]:Array Value).getD j undef):=⟨_,h,rfl,fun i hi=>by
  match i,hi with
  | 0,_=>rfl
  | 1,_=>rfl
  | 2,_=>rfl
  | 3,_=>rfl
  | 4,_=>rfl⟩
 have hl:j<5:=by have:=(List.getElem?_eq_some_iff.1 hj).1;rw [zaau] at this;exact this
 rw [hr.cell hl]
 match j,hl with
 | 0,_=>exact hj
 | 1,_=>exact hj
 | 2,_=>exact hj
 | 3,_=>exact hj
 | 4,_=>exact hj
theorem zajk (bl off:Nat) (c:Nat) (st:Int) (l:List Lg) (i:Nat) (hi:i≤l.length) (hl9:l.length≤9) (g:Lg) (w:World) (hl:l.length≤1048576) (hs:Legs w (some ⟨bl,off,none⟩) l) (hv:svOk ⟨st,l⟩=true) (hin:ddIn ⟨0,(i:Int),g⟩=true) (hlc:l.length≤c) (hc63:c≤9223372036854775807) (ht:ddTry ⟨st,l⟩ ⟨0,(i:Int),g⟩=some ⟨st,l.take i ++ g :: l.drop i⟩) :
 Calls Tryz.prog 86 #[.agg #[.int .i64 st,.slice (some ⟨bl,off,none⟩) l.length c],(⟨0,(i:Int),g⟩:Dd).val] w (SvOut (ddDo ⟨st,l⟩ ⟨0,(i:Int),g⟩) w):=by
 obtain ⟨x1,x2,x3,x4,x5⟩:=g
 show Calls Tryz.prog 86 #[.agg #[.int .i64 st,.slice (some ⟨bl,off,none⟩) l.length c],.agg #[.int .i64 0,.int .i64 (i:Int),.int .i64 x1,.int .i64 x2,.int .i64 x3,.int .i64 x4,.int .i64 x5]] w _
 obtain ⟨zs,hzs⟩:=qN (l.take i ++ ⟨x1,x2,x3,x4,x5⟩ :: l.drop i);rw [hzs] at ht;have HZ:=Lib.hid hzs
 have hlz:zs.length≤1048576:=by rw [← hzs];simp;omega
 obtain ⟨p,hp⟩:=qM (l.take i)
 have HPL:Hid (p.length=i):=by show _=_;rw [hp];simp;omega
 obtain ⟨q,hq⟩:=qM (l.drop i)
 have HQL:Hid (q.length=l.length - i):=by show _=_;rw [hq];simp
 obtain ⟨m,hm⟩:=qM (p ++ [⟨x1,x2,x3,x4,x5⟩]);have HPM:Hid (p ++ [⟨x1,x2,x3,x4,x5⟩]=m):=hm.symm
 have HML:Hid (m.length≤100):=by show _≤_;rw [hm,List.length_append,HPL.out];simp;omega
 have HPQ:Hid (m ++ q=zs):=by show _=_;rw [hm,hp,hq,← hzs];simp
 obtain ⟨A,HA,hrq⟩:∃ A:Option Addr,Hid ((if c=i then (some ⟨bl,off,none⟩:Option Addr) else some ⟨bl,off+i*5,none⟩)=A)∧Legs w A q:=by
  by_cases h:c=i
  · exact ⟨_,by show _=_;rw [if_pos h],.inl (by rw [hq];exact List.drop_eq_nil_of_le qO)⟩
  · exact ⟨_,by show _=_;rw [if_neg h],by rw [hq];exact hs.drop i⟩
 have hrp:Legs w (some ⟨bl,off,none⟩) p:=by rw [hp];exact hs.take i
 clear hzs hp hq hm
 go_enter Tryz.func86,Tryz.ntmps86
 go_wp2_with fail;obtain ⟨X,hX⟩:=qN (w.heap.size);obtain ⟨W0,hW0⟩:=qM (((w.alloc (.cells #[.int .i64 st,.slice (some ⟨bl,off,none⟩) l.length c] 25)).alloc (.cells #[.int .i64 0,.int .i64 (i:Int),.int .i64 x1,.int .i64 x2,.int .i64 x3,.int .i64 x4,.int .i64 x5] 82)).alloc (.cells #[.int .i64 0,.slice none 0 0] 25))
 have F0:Fr W0 X st (.slice (some ⟨bl,off,none⟩) l.length c) ⟨0,(i:Int),⟨x1,x2,x3,x4,x5⟩⟩:=by rw [hW0,← hX];exact Fr.new w st _ ⟨0,(i:Int),⟨x1,x2,x3,x4,x5⟩⟩ _ _ _
 have b0:Below w.heap.size w W0:=by rw [hW0];exact qBl
 rw [hX,← hW0];clear hW0;refine (zaaa _ _ st l _ hl (hs.below b0)).mono ?_;rintro e w1 ⟨rfl,b1⟩;rw [hv];replace F0:=F0.below b1;replace b0:=b0.trans (b1.mono b0.size);clear b1 W0;obtain ⟨s0,s1,s2,-,-⟩:=F0.s;go_wp2_with fail;clear s0 s1 s2;have hX1:=F0.r.lt;refine (zaah _ _ st l _ hl (hs.below b0)).mono ?_;rintro e w2 ⟨v,rfl,o1,b1⟩;obtain ⟨av,cv,rfl⟩:=o1.sl;replace F0:=F0.below b1;have bw2:=b0.trans (b1.mono b0.size);have hB1:w1.heap.size≤w2.heap.size:=b1.size;have hBw:=b0.size
 have hoY:∀ k,(Value.slice av l.length cv).ownBlock=some k→k<w2.heap.size:=fun k hk=>(o1.lt hk).2
 clear b1;obtain ⟨d0,d1,d2,d3,d4,d5,d6,d7⟩:=F0.d;simp only at d1 d2 d3 d4 d5 d6 d7;go_wp2_with fail;obtain ⟨Y,hY⟩:=qN (w2.heap.size);obtain ⟨W3,hW3⟩:=qM (w2.alloc (.cells #[.int .i64 st,.slice av l.length cv] 25))
 have A0:AtS W3 Y st (.slice av l.length cv):=by rw [hW3,← hY];exact AtS.new w2 st _ _
 have b3:Below w2.heap.size w2 W3:=by rw [hW3];exact qBl
 rw [hY,← hW3];clear hW3 d0 d1 d2 d3 d4 d5 d6 d7;replace F0:=F0.below b3;replace o1:=o1.below b3;replace bw2:=bw2.trans (b3.mono bw2.size);rw [hY] at hB1 hoY;clear b3 b0 hY w2;refine (zaa5 ⟨0,(i:Int),⟨x1,x2,x3,x4,x5⟩⟩ _).mono ?_;rintro e W4 ⟨rfl,hgr⟩;rw [hin];replace F0:=F0.below hgr;replace A0:=A0.below hgr;replace o1:=o1.below hgr;replace bw2:=bw2.trans (hgr.mono bw2.size);clear hgr W3;obtain ⟨s0,s1,s2,-,-⟩:=F0.s;obtain ⟨d0,d1,d2,d3,d4,d5,d6,d7⟩:=F0.d;simp only at d1 d2 d3 d4 d5 d6 d7;go_wp2_with fail;refine (zaac ((i:Int)) 0 ((l.length:Int) - 1) _).mono ?_;rintro e W4' ⟨rfl,hww⟩;obtain rfl:=hww;obtain ⟨a0,a1,a2,a3,a4⟩:=id A0;have hXl:X<W4.heap.size:=s0;have hX1l:X+1<W4.heap.size:=d0;have hYl:Y<W4.heap.size:=a0;have hb1:i≤l.length:=hi;have htn:(i:Int)≤(l.length:Int):=qO;have hb5:i≤c:=qO;have hb8:(0:Int)≤(i:Int):=qO;have ne1:X≠Y:=qO;have ne2:X+1≠Y:=qO;replace hrp:=hrp.below bw2;replace hrq:=hrq.below bw2;go_wp2_with fail
 go_region_held3 (fun w'=>w'.cell? ⟨X,1,none⟩=some (.slice (some ⟨bl,off,none⟩) l.length c)∧w'.cell? ⟨X+1,1,none⟩=some (.int .i64 (i:Int))∧w'.cell? ⟨X+1,2,none⟩=some (.int .i64 x1)∧w'.cell? ⟨X+1,3,none⟩=some (.int .i64 x2)∧w'.cell? ⟨X+1,4,none⟩=some (.int .i64 x3)∧w'.cell? ⟨X+1,5,none⟩=some (.int .i64 x4)∧w'.cell? ⟨X+1,6,none⟩=some (.int .i64 x5)) (first|go_keep|(refine ⟨?_,?_,?_,?_,?_,?_,?_⟩ <;> (repeat (first|rw [World.cell?_setCell_other _ _ _ _ (by intro h;injection h;omega)]|rw [zaku _ _ _ _ (by first|assumption|omega|(simp;omega))])) <;> assumption))
  (first
  | (refine zaa6 legI (.tmp 39) (.tmp 44) (by rfl) (by rfl) W4.heap.size _ [] p p rfl i HPL.out (some ⟨bl,off,none⟩) c (by rfl) (by first|exact KOwn.lit _ _ qSo|exact (KOwn.lit _ _ qSo).alloc _|exact litAt _ _ _ qSo qSo) (by rfl) (hrp.below (by repeat (first|exact Below.refl _ _|refine Below.drew ?_|refine Below.alloc ?_ qSo _))) qP (by rw [HPL.out];omega) qSo ?_;rintro av1 cv1 w5 o5 g5 b5;have b45:Below W4.heap.size W4 w5:=Below.trans (by repeat (first|exact Below.refl _ _|refine Below.drew ?_|refine Below.alloc ?_ qSo _)) b5;have s2_45:=(b45.cell (p:=⟨X,1,none⟩) hXl).trans s2;have d2_45:=(b45.cell (p:=⟨X+1,1,none⟩) hX1l).trans d2;have d3_45:=(b45.cell (p:=⟨X+1,2,none⟩) hX1l).trans d3;have d4_45:=(b45.cell (p:=⟨X+1,3,none⟩) hX1l).trans d4;have d5_45:=(b45.cell (p:=⟨X+1,4,none⟩) hX1l).trans d5;have d6_45:=(b45.cell (p:=⟨X+1,5,none⟩) hX1l).trans d6;have d7_45:=(b45.cell (p:=⟨X+1,6,none⟩) hX1l).trans d7;  (first|have hx5:=zapj _ _ _ _ _ g5 rfl|have hx5:=zapk _ _ _ _ _ g5 rfl|skip);clear b5 g5)
  | (refine zaa6 legI (.tmp 45) (.tmp 48) (by rfl) (by rfl) W4.heap.size _ p [⟨x1,x2,x3,x4,x5⟩] m HPM.out 1 rfl (some ⟨W4.heap.size+1,0,none⟩) 1 (by rfl) o5 (by rfl) (zae7 _ _ ⟨x1,x2,x3,x4,x5⟩ _ hx5) (by rw [HPL.out];omega) qP b45.size ?_;rintro av2 cv2 w6 o6 - b6;have b46:Below W4.heap.size W4 w6:=Below.trans b45 b6;have s2_46:=(b46.cell (p:=⟨X,1,none⟩) hXl).trans s2;have d2_46:=(b46.cell (p:=⟨X+1,1,none⟩) hX1l).trans d2;have d3_46:=(b46.cell (p:=⟨X+1,2,none⟩) hX1l).trans d3;have d4_46:=(b46.cell (p:=⟨X+1,3,none⟩) hX1l).trans d4;have d5_46:=(b46.cell (p:=⟨X+1,4,none⟩) hX1l).trans d5;have d6_46:=(b46.cell (p:=⟨X+1,5,none⟩) hX1l).trans d6;have d7_46:=(b46.cell (p:=⟨X+1,6,none⟩) hX1l).trans d7;  clear b6)
  | (refine zaa6 legI (.tmp 45) (.tmp 48) (by rfl) (by rfl) W4.heap.size _ p [⟨x1,x2,x3,x4,x5⟩] m HPM.out 1 rfl (some ⟨W4.heap.size,0,none⟩) 1 (by rfl) o5 (by rfl) (zae7 _ _ ⟨x1,x2,x3,x4,x5⟩ _ hx5) (by rw [HPL.out];omega) qP b45.size ?_;rintro av2 cv2 w6 o6 - b6;have b46:Below W4.heap.size W4 w6:=Below.trans b45 b6;have s2_46:=(b46.cell (p:=⟨X,1,none⟩) hXl).trans s2;have d2_46:=(b46.cell (p:=⟨X+1,1,none⟩) hX1l).trans d2;have d3_46:=(b46.cell (p:=⟨X+1,2,none⟩) hX1l).trans d3;have d4_46:=(b46.cell (p:=⟨X+1,3,none⟩) hX1l).trans d4;have d5_46:=(b46.cell (p:=⟨X+1,4,none⟩) hX1l).trans d5;have d6_46:=(b46.cell (p:=⟨X+1,5,none⟩) hX1l).trans d6;have d7_46:=(b46.cell (p:=⟨X+1,6,none⟩) hX1l).trans d7;  clear b6)
  | (refine zaa6 legI (.tmp 45) (.tmp 48) (by rfl) (by rfl) W4.heap.size _ p [⟨x1,x2,x3,x4,x5⟩] m HPM.out 1 rfl (some ⟨w5.heap.size,0,none⟩) 1 (by rfl) (o5.alloc _) (by rfl) (zae7 _ _ ⟨x1,x2,x3,x4,x5⟩ _ (Deep.blk_alloc_new _ _)) (by rw [HPL.out];omega) qP (by have:=b45.size;simp;omega) ?_;rintro av2 cv2 w6 o6 - b6;have b46:Below W4.heap.size W4 w6:=Below.trans (b45.alloc b45.size _) b6;have s2_46:=(b46.cell (p:=⟨X,1,none⟩) hXl).trans s2;have d2_46:=(b46.cell (p:=⟨X+1,1,none⟩) hX1l).trans d2;have d3_46:=(b46.cell (p:=⟨X+1,2,none⟩) hX1l).trans d3;have d4_46:=(b46.cell (p:=⟨X+1,3,none⟩) hX1l).trans d4;have d5_46:=(b46.cell (p:=⟨X+1,4,none⟩) hX1l).trans d5;have d6_46:=(b46.cell (p:=⟨X+1,5,none⟩) hX1l).trans d6;have d7_46:=(b46.cell (p:=⟨X+1,6,none⟩) hX1l).trans d7;  clear b6)
  | (refine zaa6 legI (.tmp 49) (.tmp 54) (by rfl) (by rfl) W4.heap.size _ m q zs HPQ.out (l.length - i) HQL.out A (c - i) (by rfl) o6 (by first|rfl|simp [Act.eval,Act.put,HA.out]) (hrq.below b46) (by have:=HML.out;omega) (by rw [HQL.out];omega) (b46.size) ?_;rintro az cz w7 o7 - b7;have b47:Below W4.heap.size W4 w7:=b46.trans b7;have s2_47:=(b47.cell (p:=⟨X,1,none⟩) hXl).trans s2;have d2_47:=(b47.cell (p:=⟨X+1,1,none⟩) hX1l).trans d2;have d3_47:=(b47.cell (p:=⟨X+1,2,none⟩) hX1l).trans d3;have d4_47:=(b47.cell (p:=⟨X+1,3,none⟩) hX1l).trans d4;have d5_47:=(b47.cell (p:=⟨X+1,4,none⟩) hX1l).trans d5;have d6_47:=(b47.cell (p:=⟨X+1,5,none⟩) hX1l).trans d6;have d7_47:=(b47.cell (p:=⟨X+1,6,none⟩) hX1l).trans d7;  have a2':=(b47.cell (p:=⟨Y,1,none⟩) hYl).trans a2;have a4':=(b47.frozen (p:=⟨Y,1,none⟩) hYl).trans a4;clear b7)
  | fail)
 all_goals
  clear hb1 htn hb5 hb8 ne1 ne2 hrp hrq s0 s1 s2 d0 d1 d2 d3 d4 d5 d6 d7 a0 a1 a2 a3 a4 s2_45 d2_45 d3_45 d4_45 d5_45 d6_45 d7_45 s2_46 d2_46 d3_46 d4_46 d5_46 d6_46 d7_46 s2_47 d2_47 d3_47 d4_47 d5_47 d6_47 d7_47
  (try clear hx5)
  clear o5 o6 b45 b46;replace F0:=F0.belowB b47 qO;have A1:=A0.belowB b47 hYl;have bw4:=bw2.trans (b47.mono bw2.size)
  have hYn:(Value.slice az zs.length cz).ownBlock≠some Y:=fun h=>by have:=(o7.lt h).1;omega
  clear b47;clear a2' a4';obtain ⟨z0,z1,z2,z3,z4⟩:=id A1;go_wp2_with fail
 all_goals
  obtain ⟨W5,hW5⟩:=qM (w7.setCell ⟨Y,1,none⟩ (.slice az zs.length cz));rw [← hW5]
  have b5:Below w1.heap.size w7 W5:=by rw [hW5];exact (Below.refl _ _).setCell (by show _≤Y;omega) _
  have F5:=F0.belowB b5 hX1
  have A5:AtS W5 Y st (.slice az zs.length cz):=by rw [hW5];exact A1.set1 _
  have o5:OwnL W5 w1.heap.size (.slice az zs.length cz) zs:=by rw [hW5];exact (o7.setOther (p:=⟨Y,1,none⟩) hYn _).mono qO
  have bw5:=bw4.trans (b5.mono hBw);clear hW5 b5 A1 bw4 o7 F0 A0 o1 bw2 z0 z1 z2 z3 z4;have hlz:zs.length≤1048576:=hlz;obtain ⟨s0,s1,s2,-,-⟩:=F5.s;have HT:=Lib.hid ht;clear ht;refine (zaaa _ _ (st) zs _ hlz (by obtain ⟨_,_,e,_,_,hr⟩:=o5.rd;cases e;exact hr)).mono ?_;rintro e w6 ⟨rfl,b6⟩;clear s0 s1 s2
  cases hk:svOk ⟨st,zs⟩
  · replace F5:=F5.below b6
    replace bw5:=bw5.trans (b6.mono bw5.size);clear b6 o5 A5;obtain ⟨s0,s1,s2,-,-⟩:=F5.s;go_wp2_with fail;refine (zaah _ _ st l _ hl (hs.below bw5)).mono ?_;rintro e w7 ⟨v7,rfl,o7,b7⟩;obtain ⟨a7,c7,rfl⟩:=o7.sl;clear s0 s1 s2;have hX7:=F5.r.lt;have hB7:=bw5.size;replace F5:=F5.below b7;replace bw5:=bw5.trans (b7.mono bw5.size);obtain ⟨r0,r1,r2,r3,r4⟩:=F5.r;clear b7 F5;go_wp2_with fail;have oF:=((o7.setCell (p:=⟨X+1+1,0,none⟩) hX7 (.int .i64 st)).setCell (p:=⟨X+1+1,1,none⟩) hX7 (.slice a7 l.length c7)).mono hB7;have bF:Below w.heap.size w ((w7.setCell ⟨X+1+1,0,none⟩ (.int .i64 st)).setCell ⟨X+1+1,1,none⟩ (.slice a7 l.length c7)):=(bw5.setCell (by show _≤X+1+1;omega) _).setCell (by show _≤X+1+1;omega) _;refine bodyPost_ret (v:=.tuple #[.agg #[.int .i64 st,.slice a7 l.length c7],.bool false]) (by simp [results,Tryz.results86,go_sem,r1,r2]) rfl ?_;rw [zaa2 hv HT.out hk]
    exact ⟨_,rfl,oF,bF⟩
  · replace F5:=F5.below b6
    replace bw5:=bw5.trans (b6.mono bw5.size);replace o5:=o5.below b6;replace A5:=A5.below b6;clear b6;obtain ⟨r0,r1,r2,r3,r4⟩:=F5.r;obtain ⟨a0,a1,a2,a3,a4⟩:=A5;go_wp2_with fail;have oF:=((o5.setCell (p:=⟨X+1+1,0,none⟩) hX1 (.int .i64 (st))).setCell (p:=⟨X+1+1,1,none⟩) hX1 (.slice az zs.length cz)).mono hBw;have bF:Below w.heap.size w ((w6.setCell ⟨X+1+1,0,none⟩ (.int .i64 (st))).setCell ⟨X+1+1,1,none⟩ (.slice az zs.length cz)):=(bw5.setCell (by show _≤X+1+1;omega) _).setCell (by show _≤X+1+1;omega) _;refine bodyPost_ret (v:=.tuple #[.agg #[.int .i64 (st),.slice az zs.length cz],.bool true]) (by simp [results,Tryz.results86,go_sem,r1,r2]) rfl ?_;rw [zaa9 hv HT.out hk]
    exact ⟨_,rfl,oF,bF⟩
theorem zajl (c:Nat) (st:Int) (l:List Lg) (i:Nat) (hi:i≤l.length) (hl9:l.length≤9) (g:Lg) (w:World) (hl:l.length≤1048576) (hs:Legs w none l) (hv:svOk ⟨st,l⟩=true) (hin:ddIn ⟨0,(i:Int),g⟩=true) (hlc:l.length≤c) (hc63:c≤9223372036854775807) (ht:ddTry ⟨st,l⟩ ⟨0,(i:Int),g⟩=some ⟨st,l.take i ++ g :: l.drop i⟩) :
 Calls Tryz.prog 86 #[.agg #[.int .i64 st,.slice none l.length c],(⟨0,(i:Int),g⟩:Dd).val] w (SvOut (ddDo ⟨st,l⟩ ⟨0,(i:Int),g⟩) w):=by
 obtain ⟨x1,x2,x3,x4,x5⟩:=g
 show Calls Tryz.prog 86 #[.agg #[.int .i64 st,.slice none l.length c],.agg #[.int .i64 0,.int .i64 (i:Int),.int .i64 x1,.int .i64 x2,.int .i64 x3,.int .i64 x4,.int .i64 x5]] w _
 obtain ⟨zs,hzs⟩:=qN (l.take i ++ ⟨x1,x2,x3,x4,x5⟩ :: l.drop i);rw [hzs] at ht;have HZ:=Lib.hid hzs
 have hlz:zs.length≤1048576:=by rw [← hzs];simp;omega
 obtain ⟨p,hp⟩:=qM (l.take i)
 have HPL:Hid (p.length=i):=by show _=_;rw [hp];simp;omega
 obtain ⟨q,hq⟩:=qM (l.drop i)
 have HQL:Hid (q.length=l.length - i):=by show _=_;rw [hq];simp
 obtain ⟨m,hm⟩:=qM (p ++ [⟨x1,x2,x3,x4,x5⟩]);have HPM:Hid (p ++ [⟨x1,x2,x3,x4,x5⟩]=m):=hm.symm
 have HML:Hid (m.length≤100):=by show _≤_;rw [hm,List.length_append,HPL.out];simp;omega
 have HPQ:Hid (m ++ q=zs):=by show _=_;rw [hm,hp,hq,← hzs];simp
 obtain ⟨A,HA,hrq⟩:∃ A:Option Addr,Hid ((none:Option Addr)=A)∧Legs w A q:=⟨none,rfl,.inl (by rw [hq,hs.empty];simp)⟩;obtain rfl:=HA.out
 have hrp:Legs w none p:=by rw [hp];exact hs.take i
 clear hzs hp hq hm
 go_enter Tryz.func86,Tryz.ntmps86
 go_wp2_with fail;obtain ⟨X,hX⟩:=qN (w.heap.size);obtain ⟨W0,hW0⟩:=qM (((w.alloc (.cells #[.int .i64 st,.slice none l.length c] 25)).alloc (.cells #[.int .i64 0,.int .i64 (i:Int),.int .i64 x1,.int .i64 x2,.int .i64 x3,.int .i64 x4,.int .i64 x5] 82)).alloc (.cells #[.int .i64 0,.slice none 0 0] 25))
 have F0:Fr W0 X st (.slice none l.length c) ⟨0,(i:Int),⟨x1,x2,x3,x4,x5⟩⟩:=by rw [hW0,← hX];exact Fr.new w st _ ⟨0,(i:Int),⟨x1,x2,x3,x4,x5⟩⟩ _ _ _
 have b0:Below w.heap.size w W0:=by rw [hW0];exact qBl
 rw [hX,← hW0];clear hW0;refine (zaaa _ _ st l _ hl (hs.below b0)).mono ?_;rintro e w1 ⟨rfl,b1⟩;rw [hv];replace F0:=F0.below b1;replace b0:=b0.trans (b1.mono b0.size);clear b1 W0;obtain ⟨s0,s1,s2,-,-⟩:=F0.s;go_wp2_with fail;clear s0 s1 s2;have hX1:=F0.r.lt;refine (zaah _ _ st l _ hl (hs.below b0)).mono ?_;rintro e w2 ⟨v,rfl,o1,b1⟩;obtain ⟨av,cv,rfl⟩:=o1.sl;replace F0:=F0.below b1;have bw2:=b0.trans (b1.mono b0.size);have hB1:w1.heap.size≤w2.heap.size:=b1.size;have hBw:=b0.size
 have hoY:∀ k,(Value.slice av l.length cv).ownBlock=some k→k<w2.heap.size:=fun k hk=>(o1.lt hk).2
 clear b1;obtain ⟨d0,d1,d2,d3,d4,d5,d6,d7⟩:=F0.d;simp only at d1 d2 d3 d4 d5 d6 d7;go_wp2_with fail;obtain ⟨Y,hY⟩:=qN (w2.heap.size);obtain ⟨W3,hW3⟩:=qM (w2.alloc (.cells #[.int .i64 st,.slice av l.length cv] 25))
 have A0:AtS W3 Y st (.slice av l.length cv):=by rw [hW3,← hY];exact AtS.new w2 st _ _
 have b3:Below w2.heap.size w2 W3:=by rw [hW3];exact qBl
 rw [hY,← hW3];clear hW3 d0 d1 d2 d3 d4 d5 d6 d7;replace F0:=F0.below b3;replace o1:=o1.below b3;replace bw2:=bw2.trans (b3.mono bw2.size);rw [hY] at hB1 hoY;clear b3 b0 hY w2;refine (zaa5 ⟨0,(i:Int),⟨x1,x2,x3,x4,x5⟩⟩ _).mono ?_;rintro e W4 ⟨rfl,hgr⟩;rw [hin];replace F0:=F0.below hgr;replace A0:=A0.below hgr;replace o1:=o1.below hgr;replace bw2:=bw2.trans (hgr.mono bw2.size);clear hgr W3;obtain ⟨s0,s1,s2,-,-⟩:=F0.s;obtain ⟨d0,d1,d2,d3,d4,d5,d6,d7⟩:=F0.d;simp only at d1 d2 d3 d4 d5 d6 d7;go_wp2_with fail;refine (zaac ((i:Int)) 0 ((l.length:Int) - 1) _).mono ?_;rintro e W4' ⟨rfl,hww⟩;obtain rfl:=hww;obtain ⟨a0,a1,a2,a3,a4⟩:=id A0;have hXl:X<W4.heap.size:=s0;have hX1l:X+1<W4.heap.size:=d0;have hYl:Y<W4.heap.size:=a0;have hb1:i≤l.length:=hi;have htn:(i:Int)≤(l.length:Int):=qO;have hb5:i≤c:=qO;have hb8:(0:Int)≤(i:Int):=qO;have ne1:X≠Y:=qO;have ne2:X+1≠Y:=qO;replace hrp:=hrp.below bw2;replace hrq:=hrq.below bw2;go_wp2_with fail
 go_region_held3 (fun w'=>w'.cell? ⟨X,1,none⟩=some (.slice none l.length c)∧w'.cell? ⟨X+1,1,none⟩=some (.int .i64 (i:Int))∧w'.cell? ⟨X+1,2,none⟩=some (.int .i64 x1)∧w'.cell? ⟨X+1,3,none⟩=some (.int .i64 x2)∧w'.cell? ⟨X+1,4,none⟩=some (.int .i64 x3)∧w'.cell? ⟨X+1,5,none⟩=some (.int .i64 x4)∧w'.cell? ⟨X+1,6,none⟩=some (.int .i64 x5)) (first|go_keep|(refine ⟨?_,?_,?_,?_,?_,?_,?_⟩ <;> (repeat (first|rw [World.cell?_setCell_other _ _ _ _ (by intro h;injection h;omega)]|rw [zaku _ _ _ _ (by first|assumption|omega|(simp;omega))])) <;> assumption))
  (first
  | (refine zaa6 legI (.tmp 39) (.tmp 44) (by rfl) (by rfl) W4.heap.size _ [] p p rfl i HPL.out none c (by rfl) (by first|exact KOwn.lit _ _ qSo|exact (KOwn.lit _ _ qSo).alloc _|exact litAt _ _ _ qSo qSo) (by rfl) (hrp.below (by repeat (first|exact Below.refl _ _|refine Below.drew ?_|refine Below.alloc ?_ qSo _))) qP (by rw [HPL.out];omega) qSo ?_;rintro av1 cv1 w5 o5 g5 b5;have b45:Below W4.heap.size W4 w5:=Below.trans (by repeat (first|exact Below.refl _ _|refine Below.drew ?_|refine Below.alloc ?_ qSo _)) b5;have s2_45:=(b45.cell (p:=⟨X,1,none⟩) hXl).trans s2;have d2_45:=(b45.cell (p:=⟨X+1,1,none⟩) hX1l).trans d2;have d3_45:=(b45.cell (p:=⟨X+1,2,none⟩) hX1l).trans d3;have d4_45:=(b45.cell (p:=⟨X+1,3,none⟩) hX1l).trans d4;have d5_45:=(b45.cell (p:=⟨X+1,4,none⟩) hX1l).trans d5;have d6_45:=(b45.cell (p:=⟨X+1,5,none⟩) hX1l).trans d6;have d7_45:=(b45.cell (p:=⟨X+1,6,none⟩) hX1l).trans d7;  (first|have hx5:=zapj _ _ _ _ _ g5 rfl|have hx5:=zapk _ _ _ _ _ g5 rfl|skip);clear b5 g5)
  | (refine zaa6 legI (.tmp 45) (.tmp 48) (by rfl) (by rfl) W4.heap.size _ p [⟨x1,x2,x3,x4,x5⟩] m HPM.out 1 rfl (some ⟨W4.heap.size+1,0,none⟩) 1 (by rfl) o5 (by rfl) (zae7 _ _ ⟨x1,x2,x3,x4,x5⟩ _ hx5) (by rw [HPL.out];omega) qP b45.size ?_;rintro av2 cv2 w6 o6 - b6;have b46:Below W4.heap.size W4 w6:=Below.trans b45 b6;have s2_46:=(b46.cell (p:=⟨X,1,none⟩) hXl).trans s2;have d2_46:=(b46.cell (p:=⟨X+1,1,none⟩) hX1l).trans d2;have d3_46:=(b46.cell (p:=⟨X+1,2,none⟩) hX1l).trans d3;have d4_46:=(b46.cell (p:=⟨X+1,3,none⟩) hX1l).trans d4;have d5_46:=(b46.cell (p:=⟨X+1,4,none⟩) hX1l).trans d5;have d6_46:=(b46.cell (p:=⟨X+1,5,none⟩) hX1l).trans d6;have d7_46:=(b46.cell (p:=⟨X+1,6,none⟩) hX1l).trans d7;  clear b6)
  | (refine zaa6 legI (.tmp 45) (.tmp 48) (by rfl) (by rfl) W4.heap.size _ p [⟨x1,x2,x3,x4,x5⟩] m HPM.out 1 rfl (some ⟨W4.heap.size,0,none⟩) 1 (by rfl) o5 (by rfl) (zae7 _ _ ⟨x1,x2,x3,x4,x5⟩ _ hx5) (by rw [HPL.out];omega) qP b45.size ?_;rintro av2 cv2 w6 o6 - b6;have b46:Below W4.heap.size W4 w6:=Below.trans b45 b6;have s2_46:=(b46.cell (p:=⟨X,1,none⟩) hXl).trans s2;have d2_46:=(b46.cell (p:=⟨X+1,1,none⟩) hX1l).trans d2;have d3_46:=(b46.cell (p:=⟨X+1,2,none⟩) hX1l).trans d3;have d4_46:=(b46.cell (p:=⟨X+1,3,none⟩) hX1l).trans d4;have d5_46:=(b46.cell (p:=⟨X+1,4,none⟩) hX1l).trans d5;have d6_46:=(b46.cell (p:=⟨X+1,5,none⟩) hX1l).trans d6;have d7_46:=(b46.cell (p:=⟨X+1,6,none⟩) hX1l).trans d7;  clear b6)
  | (refine zaa6 legI (.tmp 45) (.tmp 48) (by rfl) (by rfl) W4.heap.size _ p [⟨x1,x2,x3,x4,x5⟩] m HPM.out 1 rfl (some ⟨w5.heap.size,0,none⟩) 1 (by rfl) (o5.alloc _) (by rfl) (zae7 _ _ ⟨x1,x2,x3,x4,x5⟩ _ (Deep.blk_alloc_new _ _)) (by rw [HPL.out];omega) qP (by have:=b45.size;simp;omega) ?_;rintro av2 cv2 w6 o6 - b6;have b46:Below W4.heap.size W4 w6:=Below.trans (b45.alloc b45.size _) b6;have s2_46:=(b46.cell (p:=⟨X,1,none⟩) hXl).trans s2;have d2_46:=(b46.cell (p:=⟨X+1,1,none⟩) hX1l).trans d2;have d3_46:=(b46.cell (p:=⟨X+1,2,none⟩) hX1l).trans d3;have d4_46:=(b46.cell (p:=⟨X+1,3,none⟩) hX1l).trans d4;have d5_46:=(b46.cell (p:=⟨X+1,4,none⟩) hX1l).trans d5;have d6_46:=(b46.cell (p:=⟨X+1,5,none⟩) hX1l).trans d6;have d7_46:=(b46.cell (p:=⟨X+1,6,none⟩) hX1l).trans d7;  clear b6)
  | (refine zaa6 legI (.tmp 49) (.tmp 54) (by rfl) (by rfl) W4.heap.size _ m q zs HPQ.out (l.length - i) HQL.out none (c - i) (by rfl) o6 (by first|rfl|simp [Act.eval,Act.put,HA.out]) (hrq.below b46) (by have:=HML.out;omega) (by rw [HQL.out];omega) (b46.size) ?_;rintro az cz w7 o7 - b7;have b47:Below W4.heap.size W4 w7:=b46.trans b7;have s2_47:=(b47.cell (p:=⟨X,1,none⟩) hXl).trans s2;have d2_47:=(b47.cell (p:=⟨X+1,1,none⟩) hX1l).trans d2;have d3_47:=(b47.cell (p:=⟨X+1,2,none⟩) hX1l).trans d3;have d4_47:=(b47.cell (p:=⟨X+1,3,none⟩) hX1l).trans d4;have d5_47:=(b47.cell (p:=⟨X+1,4,none⟩) hX1l).trans d5;have d6_47:=(b47.cell (p:=⟨X+1,5,none⟩) hX1l).trans d6;have d7_47:=(b47.cell (p:=⟨X+1,6,none⟩) hX1l).trans d7;  have a2':=(b47.cell (p:=⟨Y,1,none⟩) hYl).trans a2;have a4':=(b47.frozen (p:=⟨Y,1,none⟩) hYl).trans a4;clear b7)
  | fail)
 all_goals
  clear hb1 htn hb5 hb8 ne1 ne2 hrp hrq s0 s1 s2 d0 d1 d2 d3 d4 d5 d6 d7 a0 a1 a2 a3 a4 s2_45 d2_45 d3_45 d4_45 d5_45 d6_45 d7_45 s2_46 d2_46 d3_46 d4_46 d5_46 d6_46 d7_46 s2_47 d2_47 d3_47 d4_47 d5_47 d6_47 d7_47
  (try clear hx5)
  clear o5 o6 b45 b46;replace F0:=F0.belowB b47 qO;have A1:=A0.belowB b47 hYl;have bw4:=bw2.trans (b47.mono bw2.size)
  have hYn:(Value.slice az zs.length cz).ownBlock≠some Y:=fun h=>by have:=(o7.lt h).1;omega
  clear b47;clear a2' a4';obtain ⟨z0,z1,z2,z3,z4⟩:=id A1;go_wp2_with fail
 all_goals
  obtain ⟨W5,hW5⟩:=qM (w7.setCell ⟨Y,1,none⟩ (.slice az zs.length cz));rw [← hW5]
  have b5:Below w1.heap.size w7 W5:=by rw [hW5];exact (Below.refl _ _).setCell (by show _≤Y;omega) _
  have F5:=F0.belowB b5 hX1
  have A5:AtS W5 Y st (.slice az zs.length cz):=by rw [hW5];exact A1.set1 _
  have o5:OwnL W5 w1.heap.size (.slice az zs.length cz) zs:=by rw [hW5];exact (o7.setOther (p:=⟨Y,1,none⟩) hYn _).mono qO
  have bw5:=bw4.trans (b5.mono hBw);clear hW5 b5 A1 bw4 o7 F0 A0 o1 bw2 z0 z1 z2 z3 z4;have hlz:zs.length≤1048576:=hlz;obtain ⟨s0,s1,s2,-,-⟩:=F5.s;have HT:=Lib.hid ht;clear ht;refine (zaaa _ _ (st) zs _ hlz (by obtain ⟨_,_,e,_,_,hr⟩:=o5.rd;cases e;exact hr)).mono ?_;rintro e w6 ⟨rfl,b6⟩;clear s0 s1 s2
  cases hk:svOk ⟨st,zs⟩
  · replace F5:=F5.below b6
    replace bw5:=bw5.trans (b6.mono bw5.size);clear b6 o5 A5;obtain ⟨s0,s1,s2,-,-⟩:=F5.s;go_wp2_with fail;refine (zaah _ _ st l _ hl (hs.below bw5)).mono ?_;rintro e w7 ⟨v7,rfl,o7,b7⟩;obtain ⟨a7,c7,rfl⟩:=o7.sl;clear s0 s1 s2;have hX7:=F5.r.lt;have hB7:=bw5.size;replace F5:=F5.below b7;replace bw5:=bw5.trans (b7.mono bw5.size);obtain ⟨r0,r1,r2,r3,r4⟩:=F5.r;clear b7 F5;go_wp2_with fail;have oF:=((o7.setCell (p:=⟨X+1+1,0,none⟩) hX7 (.int .i64 st)).setCell (p:=⟨X+1+1,1,none⟩) hX7 (.slice a7 l.length c7)).mono hB7;have bF:Below w.heap.size w ((w7.setCell ⟨X+1+1,0,none⟩ (.int .i64 st)).setCell ⟨X+1+1,1,none⟩ (.slice a7 l.length c7)):=(bw5.setCell (by show _≤X+1+1;omega) _).setCell (by show _≤X+1+1;omega) _;refine bodyPost_ret (v:=.tuple #[.agg #[.int .i64 st,.slice a7 l.length c7],.bool false]) (by simp [results,Tryz.results86,go_sem,r1,r2]) rfl ?_;rw [zaa2 hv HT.out hk]
    exact ⟨_,rfl,oF,bF⟩
  · replace F5:=F5.below b6
    replace bw5:=bw5.trans (b6.mono bw5.size);replace o5:=o5.below b6;replace A5:=A5.below b6;clear b6;obtain ⟨r0,r1,r2,r3,r4⟩:=F5.r;obtain ⟨a0,a1,a2,a3,a4⟩:=A5;go_wp2_with fail;have oF:=((o5.setCell (p:=⟨X+1+1,0,none⟩) hX1 (.int .i64 (st))).setCell (p:=⟨X+1+1,1,none⟩) hX1 (.slice az zs.length cz)).mono hBw;have bF:Below w.heap.size w ((w6.setCell ⟨X+1+1,0,none⟩ (.int .i64 (st))).setCell ⟨X+1+1,1,none⟩ (.slice az zs.length cz)):=(bw5.setCell (by show _≤X+1+1;omega) _).setCell (by show _≤X+1+1;omega) _;refine bodyPost_ret (v:=.tuple #[.agg #[.int .i64 (st),.slice az zs.length cz],.bool true]) (by simp [results,Tryz.results86,go_sem,r1,r2]) rfl ?_;rw [zaa9 hv HT.out hk]
    exact ⟨_,rfl,oF,bF⟩
set_option maxHeartbeats 2000000
theorem inB_iff {n lo hi:Int}:inB n lo hi=true↔lo≤n∧n≤hi:=by simp [inB]
theorem zapl {n lo hi:Int} (h:inB n lo hi=false):¬ (lo≤n∧n≤hi):=by
 intro h';rw [inB_iff.2 h'] at h;cases h
theorem zapm {s:Sv} (h:svOk s=true) {g:Lg} (hg:g ∈ s.legs):legOk 6 g=true:=by
 obtain ⟨h1,h2,h3,h4⟩:=svOk_iff.1 h;simp only [legsOk,List.all_eq_true] at h4
 exact zach h2 (h4 g hg)
theorem zaeb {s:Sv} {d:Dd} (hv:svOk s=true) (h:∀ t,ddTry s d=some t→svOk t=false):ddDo s d=(s,false):=by
 cases ht:ddTry s d with
 | none=>exact zab7 hv ht
 | some t=>exact zaa2 hv ht (h t ht)
theorem zad2 {s t:Sv} {d:Dd} (h:ddTry s d=some t) :
 (d.kind=0∧0≤d.index∧d.index≤s.legs.length∧t=⟨s.st,s.legs.take d.index.toNat ++ d.leg :: s.legs.drop d.index.toNat⟩) ∨
 (d.kind=1∧0≤d.index∧d.index<s.legs.length∧d.leg=noLeg∧t=⟨s.st,s.legs.take d.index.toNat ++ s.legs.drop (d.index.toNat+1)⟩) ∨
 (d.kind=2∧0≤d.index∧d.index<s.legs.length∧d.leg=noLeg∧t=⟨s.st,s.legs.set d.index.toNat (legBack (nth s.legs d.index.toNat))⟩) ∨
 (d.kind=3∧0≤d.index∧d.index<s.legs.length∧d.leg≠nth s.legs d.index.toNat∧t=⟨s.st,s.legs.set d.index.toNat d.leg⟩) ∨
 (d.kind=4∧d.index=0∧d.leg=noLeg∧t=⟨s.st+1,s.legs⟩)∨(d.kind=5∧d.index=0∧d.leg=noLeg∧t=⟨s.st - 1,s.legs⟩):=by
 unfold ddTry at h;simp only at h
 split at h
 · rename_i hk
   split at h
   · rename_i hc;cases h;exact .inl ⟨hk,hc.1,hc.2,rfl⟩
   · cases h
 split at h
 · rename_i hk
   split at h
   · rename_i hc;cases h;exact .inr (.inl ⟨hk,hc.1,hc.2.1,hc.2.2,rfl⟩)
   · cases h
 split at h
 · rename_i hk
   split at h
   · rename_i hc;cases h;exact .inr (.inr (.inl ⟨hk,hc.1,hc.2.1,hc.2.2,rfl⟩))
   · cases h
 split at h
 · rename_i hk
   split at h
   · rename_i hc;cases h;exact .inr (.inr (.inr (.inl ⟨hk,hc.1,hc.2.1,hc.2.2,rfl⟩)))
   · cases h
 split at h
 · rename_i hk
   split at h
   · rename_i hc;cases h;exact .inr (.inr (.inr (.inr (.inl ⟨hk,hc.1,hc.2,rfl⟩))))
   · cases h
 split at h
 · rename_i hk
   split at h
   · rename_i hc;cases h;exact .inr (.inr (.inr (.inr (.inr ⟨hk,hc.1,hc.2,rfl⟩))))
   · cases h
 · cases h
theorem zalr {s t:Sv} {d:Dd} (hv:svOk s=true) (ht:ddTry s d=some t) (hk:svOk t=true):ddIn d=true:=by
 obtain ⟨v1,v2,v3,v4⟩:=svOk_iff.1 hv;unfold ddIn
 rcases zad2 ht with ⟨k,h1,h2,rfl⟩|⟨k,h1,h2,h3,rfl⟩|⟨k,h1,h2,h3,rfl⟩|⟨k,h1,h2,h3,rfl⟩|⟨k,h1,h2,rfl⟩|⟨k,h1,h2,rfl⟩
 · have hm:=zapm hk (g:=d.leg) qP
   rw [k,if_pos (.inl rfl),hm,inB_iff.2 ⟨by omega,by omega⟩,inB_iff.2 ⟨h1,by omega⟩];rfl
 · rw [k,if_neg qO,h3,inB_iff.2 ⟨by omega,by omega⟩,inB_iff.2 ⟨h1,by omega⟩];rfl
 · rw [k,if_neg qO,h3,inB_iff.2 ⟨by omega,by omega⟩,inB_iff.2 ⟨h1,by omega⟩];rfl
 · have hm:=zapm hk (g:=d.leg) (by show d.leg ∈ s.legs.set _ _;exact List.mem_iff_getElem.2 ⟨d.index.toNat,by simp;omega,by simp⟩)
   rw [k,if_pos (.inr rfl),hm,inB_iff.2 ⟨by omega,by omega⟩,inB_iff.2 ⟨h1,by omega⟩];rfl
 · rw [k,if_neg qO,h1,h2];rfl
 · rw [k,if_neg qO,h1,h2];rfl
theorem zas6 {d:Dd} (h:ddIn d=true):(d.kind=0∨d.kind=1∨d.kind=2∨d.kind=3∨d.kind=4∨d.kind=5)∧(0≤d.index∧d.index≤9)∧(d.kind=4∨d.kind=5→d.index=0)∧(d.kind≠0∧d.kind≠3→d.leg=noLeg):=by
 unfold ddIn at h;simp only [Bool.and_eq_true] at h;obtain ⟨⟨⟨h1,h2⟩,h3⟩,h4⟩:=h;rw [inB_iff] at h1 h2
 refine ⟨by omega,h2,fun hk=>?_,fun hk=>?_⟩
 · rcases hk with hk|hk <;> simpa [hk] using h3
 · rw [if_neg qO] at h4;exact of_decide_eq_true h4
theorem zaiw (a:Option Addr) (c:Nat) (st:Int) (l:List Lg) (d:Dd) (w:World) (hl:l.length≤1048576) (hlc:l.length≤c) (hc63:c≤9223372036854775807) (ha:∀ ad,a=some ad→ad.spot=none) (hs:Legs w a l) :
 Calls Tryz.prog 86 #[.agg #[.int .i64 st,.slice a l.length c],d.val] w (SvOut (ddDo ⟨st,l⟩ d) w):=by
 cases hv:svOk ⟨st,l⟩
 · exact zarc a c st l d w hl hs hv
 obtain ⟨v1,v2,v3,v4⟩:=svOk_iff.1 hv;simp only at v1 v2 v3 v4
 cases hin:ddIn d
 · obtain ⟨kd,ix,g⟩:=d
   refine zapb a c st l kd ix g w hl hs hv hin (zaeb hv fun t ht=>?_)
   cases hk:svOk t
   · rfl
   · rw [zalr hv ht hk] at hin;cases hin
 obtain ⟨kd,ix,g⟩:=d;obtain ⟨f1,f2,f3,f4⟩:=zas6 hin;simp only at f1 f2 f3 f4
 rcases f1 with rfl|rfl|rfl|rfl|rfl|rfl
 · by_cases hi:ix≤(l.length:Int)
   · obtain ⟨i,rfl⟩:∃ i:Nat,ix=(i:Int):=⟨ix.toNat,by omega⟩
     have ht:ddTry ⟨st,l⟩ ⟨0,(i:Int),g⟩=some ⟨st,l.take i ++ g :: l.drop i⟩:=by
      unfold ddTry;simp only [if_true,Int.toNat_natCast];rw [if_pos qO]
     cases a with
     | none=>exact zajl c st l i qO v3 g w hl hs hv hin hlc hc63 ht
     | some ad =>
       obtain ⟨b,o,sp⟩:=ad;have:=ha _ rfl;simp only at this;subst this
       exact zajk b o c st l i qO v3 g w hl hs hv hin hlc hc63 ht
   · exact zapc a c st l ix g w hl hs hv hin hi (zaeb hv fun t ht=>by
      rcases zad2 ht with ⟨k,h1,h2,_⟩|⟨k,_⟩|⟨k,_⟩|⟨k,_⟩|⟨k,_⟩|⟨k,_⟩ <;> simp only at*<;> omega)
 · cases hth:inB ix 0 ((l.length:Int) - 1)
   · have:=zapl hth
     exact zapd a c st l ix g w hl hs hv hin hth (zaeb hv fun t ht=>by
      rcases zad2 ht with ⟨k,_⟩|⟨k,h1,h2,_⟩|⟨k,h1,h2,_⟩|⟨k,h1,h2,_⟩|⟨k,_⟩|⟨k,_⟩ <;> simp only at*<;> omega)
   · have hb:=inB_iff.1 hth
     obtain ⟨i,rfl⟩:∃ i:Nat,ix=(i:Int):=⟨ix.toNat,by omega⟩;refine zapi a c st l i qO v3 g w hl hs hv hin hth hlc hc63 ?_;unfold ddTry;simp only [Int.reduceEq,if_true,if_false,Int.toNat_natCast];rw [if_pos ⟨by omega,by omega,f4 qO⟩]
 · cases hth:inB ix 0 ((l.length:Int) - 1)
   · have:=zapl hth
     exact zape a c st l ix g w hl hs hv hin hth (zaeb hv fun t ht=>by
      rcases zad2 ht with ⟨k,_⟩|⟨k,h1,h2,_⟩|⟨k,h1,h2,_⟩|⟨k,h1,h2,_⟩|⟨k,_⟩|⟨k,_⟩ <;> simp only at*<;> omega)
   · have hb:=inB_iff.1 hth
     obtain ⟨i,rfl⟩:∃ i:Nat,ix=(i:Int):=⟨ix.toNat,by omega⟩;refine zaph a c st l i qO v3 g w hl hs hv hin hth (zach v2 (zabq v4 qO)) ?_;unfold ddTry;simp only [Int.reduceEq,if_true,if_false,Int.toNat_natCast];rw [if_pos ⟨by omega,by omega,f4 qO⟩]
     rfl
 · cases hth:inB ix 0 ((l.length:Int) - 1)
   · have:=zapl hth
     exact zapf a c st l ix g w hl hs hv hin hth (zaeb hv fun t ht=>by
      rcases zad2 ht with ⟨k,_⟩|⟨k,h1,h2,_⟩|⟨k,h1,h2,_⟩|⟨k,h1,h2,_⟩|⟨k,_⟩|⟨k,_⟩ <;> simp only at*<;> omega)
   · have hb:=inB_iff.1 hth
     obtain ⟨i,rfl⟩:∃ i:Nat,ix=(i:Int):=⟨ix.toNat,by omega⟩
     by_cases he:g=nth l i
     · refine zapg a c st l i qO v3 g w hl hs hv hin hth he (zaeb hv fun t ht=>?_)
       unfold ddTry at ht;simp only [Int.reduceEq,if_true,if_false,Int.toNat_natCast] at ht
       rw [if_neg (fun h=>h.2.2 he)] at ht
       cases ht
     · refine zard a c st l i qO v3 g w hl hs hv hin hth he ?_
       unfold ddTry;simp only [Int.reduceEq,if_true,if_false,Int.toNat_natCast];rw [if_pos ⟨by omega,by omega,he⟩]
 · obtain rfl:=f3 (.inl rfl)
   refine zanr a c st l g w hl hs hv hin ?_ ⟨v1,v2⟩;unfold ddTry;simp only [Int.reduceEq,if_true,if_false];rw [if_pos ⟨trivial,f4 qO⟩]
 · obtain rfl:=f3 (.inr rfl)
   refine zans a c st l g w hl hs hv hin ?_ ⟨v1,v2⟩;unfold ddTry;simp only [Int.reduceEq,if_true,if_false];rw [if_pos ⟨trivial,f4 qO⟩]
open Go Go.RowKit
theorem zap3 {n:Int} {g:Lg} (h:legOk n g=true):g.frm≠g.to:=by
 simp only [legOk,isIdx,isIn,Bool.and_eq_true,decide_eq_true_eq,Bool.not_eq_true',Bool.or_eq_false_iff,decide_eq_false_iff_not] at h
 exact h.2.1.2
theorem zab2 {s:Sv} {d:Dd} {l:List Dd} (h:(ddDo s d).2=true):runFrom s (d :: l)=((runFrom (ddDo s d).1 l).1,(runFrom (ddDo s d).1 l).2+1):=by rw [runFrom,if_pos h]
theorem zacy {s:Sv} {d:Dd} {l:List Dd} (h:¬ (ddDo s d).2=true):runFrom s (d :: l)=(s,0):=by rw [runFrom,if_neg h]
theorem zah2:∀ (n:Nat) (l:List Dd) (s:Sv),n≤(runFrom s l).2→(runFrom s (l.take n)).2=n
 | 0,l,s,_=>by simp [runFrom]
 | n+1,[],s,h=>by simp [runFrom] at h
 | n+1,d :: l,s,h=>by
   by_cases hd:(ddDo s d).2=true
   · rw [zab2 hd] at h
     rw [List.take_succ_cons,zab2 hd];have:=zah2 n l (ddDo s d).1 (by simpa using h)
     simp [this]
   · rw [zacy hd] at h;simp at h
theorem zafi {s:Sv} {l:List Dd} {d:Dd} (h:(runFrom s l).2=l.length):runFrom s (l ++ [d])=if (ddDo (runFrom s l).1 d).2=true then ((ddDo (runFrom s l).1 d).1,l.length+1) else ((runFrom s l).1,l.length):=by
 rw [zacg _ _ _ h]
 by_cases hd:(ddDo (runFrom s l).1 d).2=true
 · rw [zab2 hd,if_pos hd];rfl
 · rw [zacy hd,if_neg hd];rfl
theorem zacc {b:Bk} (h:bkOk b=true):bkNow b=(runFrom b.first b.done).1:=by unfold bkNow;rw [if_pos h]
theorem zaf9 {b:Bk} (h:bkOk b=true):svOk (bkNow b)=true:=by
 rw [zacc h];exact zacp _ _ (bkOk_iff.1 h).1
theorem zawr {b:Bk} (h:bkOk b=true) (hu:b.undone.length≠0) :
 (ddDo (bkNow b) (nth b.undone (b.undone.length - 1))).2=true∧bkOk (bkRedo b).1=true∧bkNow (bkRedo b).1=(ddDo (bkNow b) (nth b.undone (b.undone.length - 1))).1:=by
 obtain ⟨h1,h2,h3,h4⟩:=bkOk_iff.1 h
 have hsplit:b.undone=b.undone.take (b.undone.length - 1) ++ [nth b.undone (b.undone.length - 1)]:=by
  rw [← zabc (show b.undone.length - 1<b.undone.length by omega),show b.undone.length - 1+1=b.undone.length by omega,List.take_length]
 obtain ⟨u,x,e,eu⟩:∃ u x,b.undone=u ++ [x]∧x=nth b.undone (b.undone.length - 1)∧u=b.undone.take (b.undone.length - 1):=⟨_,_,hsplit,rfl,rfl⟩;have hN:bkNow b=(runFrom b.first b.done).1:=zacc h;rw [e,List.reverse_append] at h4;simp only [List.reverse_cons,List.reverse_nil,List.nil_append,List.cons_append,List.length_append,List.length_cons,List.length_nil] at h4;rw [← eu.1]
 by_cases hd:(ddDo (runFrom b.first b.done).1 x).2=true
 · rw [zab2 hd] at h4
   have h5:(runFrom (ddDo (runFrom b.first b.done).1 x).1 u.reverse).2=u.length:=by simpa using h4
   have hs:=zafi (d:=x) h3;rw [if_pos hd] at hs
   have ht:(bkRedo b).1=⟨b.first,b.done ++ [x],u⟩:=by
    unfold bkRedo;rw [if_pos h,if_neg hu,← eu.1,← eu.2]
   have hlen:b.undone.length=u.length+1:=by rw [e];simp
   have hok:bkOk ⟨b.first,b.done ++ [x],u⟩=true:=bkOk_iff.2 ⟨h1,by simp;omega,by simp only;rw [hs];simp,by simp only;rw [hs];exact h5⟩;rw [ht]
   exact ⟨by rw [hN];exact hd,hok,by rw [zacc hok,hN];simp only;rw [hs]⟩
 · rw [zacy hd] at h4;simp at h4
theorem zap4 {b:Bk} (h:bkOk b=true) (hu:b.done.length≠0) :
 bkOk (bkUndo b).1=true∧(ddDo (bkNow (bkUndo b).1) (nth b.done (b.done.length - 1))).2=true∧bkNow b=(ddDo (bkNow (bkUndo b).1) (nth b.done (b.done.length - 1))).1:=by
 obtain ⟨h1,h2,h3,h4⟩:=bkOk_iff.1 h
 have hsplit:b.done=b.done.take (b.done.length - 1) ++ [nth b.done (b.done.length - 1)]:=by
  rw [← zabc (show b.done.length - 1<b.done.length by omega),show b.done.length - 1+1=b.done.length by omega,List.take_length]
 obtain ⟨u,x,e,eu⟩:∃ u x,b.done=u ++ [x]∧x=nth b.done (b.done.length - 1)∧u=b.done.take (b.done.length - 1):=⟨_,_,hsplit,rfl,rfl⟩
 have hlen:b.done.length=u.length+1:=by rw [e];simp
 have hu':(runFrom b.first u).2=u.length:=by rw [eu.2];rw [zah2 _ _ _ qO];simp
 have hs:=zafi (d:=x) hu';rw [← e] at hs;have hN:bkNow b=(runFrom b.first b.done).1:=zacc h
 have hd:(ddDo (runFrom b.first u).1 x).2=true:=by
  by_cases hd:(ddDo (runFrom b.first u).1 x).2=true
  · exact hd
  · rw [if_neg hd] at hs;rw [hs] at h3;simp at h3;omega
 rw [if_pos hd] at hs
 have ht:(bkUndo b).1=⟨b.first,u,b.undone ++ [x]⟩:=by
  unfold bkUndo;rw [if_pos h,if_neg hu,← eu.1,← eu.2]
 have hok:bkOk ⟨b.first,u,b.undone ++ [x]⟩=true:=by
  refine bkOk_iff.2 ⟨h1,by simp;omega,hu',?_⟩;simp only [List.reverse_append,List.reverse_cons,List.reverse_nil,List.nil_append,List.cons_append,List.length_append,List.length_cons,List.length_nil];rw [zab2 hd];rw [hs] at h4;simp only at h4 ⊢;rw [h4]
 rw [ht,← eu.1,zacc hok,hN,hs]
 exact ⟨hok,hd,rfl⟩
theorem zayk {b:Bk} {d:Dd} (h:(bkDo b d).2=true):bkOk b=true∧(ddDo (bkNow b) d).2=true∧bkDo b d=(⟨b.first,b.done ++ [d],[]⟩,true)∧bkOk ⟨b.first,b.done ++ [d],[]⟩=true∧bkNow ⟨b.first,b.done ++ [d],[]⟩=(ddDo (bkNow b) d).1:=by
 unfold bkDo at h ⊢
 cases hb:bkOk b
 · rw [hb] at h;cases h
 · rw [hb] at h
   rw [if_pos rfl] at h ⊢
   by_cases hc:(ddDo (bkNow b) d).2=true∧b.done.length≠40
   · obtain ⟨h1,h2,h3,h4⟩:=bkOk_iff.1 hb
     have hN:=zacc hb;rw [if_pos hc];rw [hN] at hc ⊢;have hs:=zafi (d:=d) h3;rw [if_pos hc.1] at hs;have hok:bkOk ⟨b.first,b.done ++ [d],[]⟩=true:=bkOk_iff.2 ⟨h1,by simp;omega,by simp only;rw [hs];simp,rfl⟩
     exact ⟨rfl,hc.1,rfl,hok,by rw [zacc hok];simp only;rw [hs]⟩
   · rw [if_neg hc] at h;cases h
end Go.Proofs.YthfoloefkfadlaaGreatDoor
