/- Walks: Misclosure and Closes, impl and spec. -/
import Derived.Test.YthfoloefkfadlaaGreatDoorM8
set_option linter.unusedSimpArgs false
set_option linter.unusedVariables false
set_option maxHeartbeats 1000000
set_option maxRecDepth 100000
namespace Go.Proofs.YthfoloefkfadlaaGreatDoor
open Go Go.RowKit Go.Sort
def IsMiss (s:Sv) (g:Lg) (p q r:Int):Prop:=∀ f1 f2 f3:Int→Int,Pot Lg.east (legsAt s.legs (treeS s)) f1→Pot Lg.north (legsAt s.legs (treeS s)) f2→Pot Lg.up (legsAt s.legs (treeS s)) f3→p=f1 g.frm+g.east - f1 g.to∧q=f2 g.frm+g.north - f2 g.to∧r=f3 g.frm+g.up - f3 g.to
theorem zax9 {s:Sv} (hv:svOk s=true) {g:Lg} (hg:g ∈ s.legs):rootS s g.frm=rootS s g.to:=by
 have hE:∀ x ∈ s.legs,EdgeIn s.st.toNat x:=fun x hx=>zads (zafm hv hx)
 exact Reach.same (zahr s.legs hE) (Reach.link ⟨g,hg,.inl ⟨rfl,rfl⟩⟩)
theorem zam1 {s:Sv} (hv:svOk s=true) {g:Lg} (hg:g ∈ s.legs) {p q r p' q' r':Int} (h1:IsPlace s g.frm p q r) (h2:IsPlace s g.to p' q' r'):IsMiss s g (p+g.east + -p') (q+g.north + -q') (r+g.up + -r'):=fun f1 f2 f3 a1 a2 a3=>by
 obtain ⟨x1,x2,x3⟩:=h1 f1 f2 f3 a1 a2 a3;obtain ⟨y1,y2,y3⟩:=h2 f1 f2 f3 a1 a2 a3;rw [zax9 hv hg] at x1 x2 x3
 omega
theorem pots {s:Sv} (hv:svOk s=true):(∃ f,Pot Lg.east (legsAt s.legs (treeS s)) f)∧(∃ f,Pot Lg.north (legsAt s.legs (treeS s)) f)∧∃ f,Pot Lg.up (legsAt s.legs (treeS s)) f:=by
 have hE:∀ x ∈ s.legs,EdgeIn s.st.toNat x:=fun x hx=>zads (zafm hv hx)
 have ht:=zaki hE s.legs.length (Nat.le_refl _)
 have e:treeS s=(treeSt s.st.toNat s.legs s.legs.length).2:=by simp [treeS,treeF,hv]
 rw [e]
 obtain ⟨f1,h1,-⟩:=ht.pot Lg.east fun g hg=>(zabj hv g hg).1
 obtain ⟨f2,h2,-⟩:=ht.pot Lg.north fun g hg=>(zabj hv g hg).2.1
 obtain ⟨f3,h3,-⟩:=ht.pot Lg.up fun g hg=>(zabj hv g hg).2.2
 exact ⟨⟨f1,h1⟩,⟨f2,h2⟩,f3,h3⟩
theorem zam2 {s:Sv} (hv:svOk s=true) {g:Lg} (hg:g ∈ s.legs) {p q r:Int} (h:IsMiss s g p q r) (hne:¬ (p=0∧q=0∧r=0)):closesF s=false:=by
 obtain ⟨⟨f1,a1⟩,⟨f2,a2⟩,f3,a3⟩:=pots hv;obtain ⟨x1,x2,x3⟩:=h f1 f2 f3 a1 a2 a3;unfold closesF;rw [hv,Bool.true_and,decide_eq_false_iff_not];intro hc;have y1:=hc g hg Lg.east (.inl rfl) f1 a1;have y2:=hc g hg Lg.north (.inr (.inl rfl)) f2 a2;have y3:=hc g hg Lg.up (.inr (.inr rfl)) f3 a3
 omega
theorem zaky {s:Sv} (hv:svOk s=true) (h:∀ g ∈ s.legs,IsMiss s g 0 0 0):closesF s=true:=by
 obtain ⟨⟨f1,a1⟩,⟨f2,a2⟩,f3,a3⟩:=pots hv;unfold closesF;simp only [hv,Bool.true_and,decide_eq_true_eq];intro g hg f hf q hq
 rcases hf with rfl|rfl|rfl
 · have:=(h g hg q f2 f3 hq a2 a3).1;omega
 · have:=(h g hg f1 q f3 a1 hq a3).2.1;omega
 · have:=(h g hg f1 f2 q a1 a2 hq).2.2;omega
theorem keptN {V w':World} {N:Nat} (h:Below V.heap.size V w'):∀ b o,b<V.heap.size→b≠N→w'.cell? ⟨b,o,none⟩=V.cell? ⟨b,o,none⟩:=fun b o hb _=>h.cell (p:=⟨b,o,none⟩) hb
theorem zau3 {V w':World} {N:Nat} (h:Below V.heap.size V w') (x y z:Value):∀ b o,b<V.heap.size→b≠N→(((w'.setCell ⟨N,0,none⟩ x).setCell ⟨N,1,none⟩ y).setCell ⟨N,2,none⟩ z).cell? ⟨b,o,none⟩=V.cell? ⟨b,o,none⟩:=fun b o hb hn=>by
 rw [World.cell?_setCell_other _ _ _ _ (by intro e;exact hn (by injection e with e1;exact e1.symm)),World.cell?_setCell_other _ _ _ _ (by intro e;exact hn (by injection e with e1;exact e1.symm)),World.cell?_setCell_other _ _ _ _ (by intro e;exact hn (by injection e with e1;exact e1.symm))]
 exact h.cell (p:=⟨b,o,none⟩) hb
def MissOut (s:Sv) (g:Lg) (w:World) (e:Ending) (w':World):Prop:=∃ p q r:Int,e=.returned (.tuple #[.agg #[.int .i64 p,.int .i64 q,.int .i64 r],.bool true])∧Hid (IsMiss s g p q r)∧Below w.heap.size w w'
theorem zal4 (a:Option Addr) (c n:Nat) (l:List Lg) (x:Nat) (w:World) (hv:svOk ⟨(n:Int),l⟩=true) (hx:x<n) (hs:Legs w a l) :
 Calls Tryz.prog 127 #[.agg #[.int .i64 (n:Int),.slice a l.length c],.int .i64 (x:Int)] w fun e w'=>∃ p q r:Int,e=.returned (.tuple #[.agg #[.int .i64 p,.int .i64 q,.int .i64 r],.bool true])∧((-10000000≤p∧p≤10000000)∧(-10000000≤q∧q≤10000000)∧(-10000000≤r∧r≤10000000))∧Hid (IsPlace ⟨(n:Int),l⟩ (x:Int) p q r)∧Below w.heap.size w w':=by
 have hl:=(st_in hv).2.2;simp only at hl
 refine (zaea a c (n:Int) l (x:Int) w qO hs).mono fun e w' h=>?_
 obtain ⟨p,q,r,b,h1,h2,h3,h4,h5,-,h7⟩:=h
 obtain ⟨rfl,h8⟩:=h5 ⟨hv,by constructor <;> (try simp only) <;> omega⟩
 exact ⟨p,q,r,h1,⟨h2,h3,h4⟩,h8,h7⟩
theorem zau4 (a:Option Addr) (c n:Nat) (l:List Lg) (i:Nat) (w:World) (hv:svOk ⟨(n:Int),l⟩=true) (hi:i<l.length) (hs:Legs w a l):Calls Tryz.prog 152 #[.agg #[.int .i64 (n:Int),.slice a l.length c],.int .i64 (i:Int)] w (MissOut ⟨(n:Int),l⟩ (nth l i) w):=by
 obtain ⟨v1,v2,v3⟩:=st_in hv;simp only at v1 v2 v3
 have i1:=fun w h=>zaab a c (n:Int) l w qO h
 rw [hv] at i1;obtain ⟨b,off,ea,hbw,e1,e2,e3,e4,e5⟩:=Legs.at hs hi;subst ea;have hE:=(zacb hv (nth l i) (zaaf hi)).1;have hP:=zabj hv (nth l i) (zaaf hi)
 have HMS:=Lib.hid (fun p q r p' q' r' h1 h2=>zam1 hv (g:=nth l i) (zaaf hi) (p:=p) (q:=q) (r:=r) (p':=p') (q':=q') (r':=r') h1 h2)
 have I4:=Lib.hid (fun x w hx h=>zal3 (some ⟨b,off,none⟩) c n l x w hv hx h)
 obtain ⟨⟨g1,g2,g3,g4,g5⟩,hg⟩:=qN (nth l i);rw [hg] at e1 e2 e3 e4 e5 hE hP HMS ⊢;obtain ⟨⟨a0,a1⟩,b0,b1⟩:=hE;simp only at e1 e2 e3 e4 e5 a0 a1 b0 b1 hP;obtain ⟨p1,p2,p3⟩:=hP;obtain ⟨f,rfl⟩:∃ f:Nat,g1=(f:Int):=⟨g1.toNat,by omega⟩;obtain ⟨t,rfl⟩:∃ t:Nat,g2=(t:Int):=⟨g2.toNat,by omega⟩
 have hfn:f<n:=by simp only [Int.toNat_natCast] at a1;omega
 have htn:t<n:=by simp only [Int.toNat_natCast] at b1;omega
 have IF:=Lib.hid (fun w h=>I4.out f w hfn h)
 have IT:=Lib.hid (fun w h=>I4.out t w htn h)
 have hin:isIdx (i:Int) (l.length:Int)=true:=by simp [isIdx];omega
 have hi2:(i:Int)<(l.length:Int):=qO;clear hg hv a0 a1 b0 b1 I4
 go_enter Tryz.func152,Tryz.ntmps152
 go_wp2_with fail;refine (i1 _ (hs.below qBl)).mono ?_;rintro e w1 ⟨rfl,c1⟩;obtain ⟨X,hX⟩:=qN (w.heap.size);have F1:At w1 X [.int .i64 (n:Int),.slice (some ⟨b,off,none⟩) l.length c]:=((At.new _ #[.int .i64 (n:Int),.slice (some ⟨b,off,none⟩) l.length c] 25 hX.symm rfl).alloc _).below c1;have R1:At w1 (X+1) [.int .i64 0,.int .i64 0,.int .i64 0]:=(At.new _ #[.int .i64 0,.int .i64 0,.int .i64 0] 109 (by simp [hX]) rfl).below c1;have hb:Below w.heap.size w w1:=Below.trans qBl (c1.mono (by simp;omega));have hwX:w.heap.size≤X:=qO;have hbX:b<X:=qO;rw [hX];clear c1 hX i1;obtain ⟨y,y0,y1,-⟩:=id F1.facts2;replace e1:=(hb.cell (p:=⟨b,off+i*5,none⟩) hbw).trans e1;replace e2:=(hb.cell (p:=⟨b,off+i*5+1,none⟩) hbw).trans e2;replace e3:=(hb.cell (p:=⟨b,off+i*5+2,none⟩) hbw).trans e3;replace e4:=(hb.cell (p:=⟨b,off+i*5+3,none⟩) hbw).trans e4;replace e5:=(hb.cell (p:=⟨b,off+i*5+4,none⟩) hbw).trans e5;go_upto_region 4 with (go_at_call 98;refine (zaal _ _ _).mono ?_;rintro e w' ⟨rfl,rfl⟩);have Lx:At (w1.alloc (.cells #[.int .i64 (f:Int),.int .i64 (t:Int),.int .i64 g3,.int .i64 g4,.int .i64 g5] 75)) w1.heap.size [.int .i64 (f:Int),.int .i64 (t:Int),.int .i64 g3,.int .i64 g4,.int .i64 g5]:=At.new _ _ _ rfl rfl;obtain ⟨Z,hZ⟩:=qN (w1.heap.size)
 have hXZ:X+1<Z:=by have:=R1.lt;omega
 rw [hZ] at Lx ⊢;replace F1:=F1.alloc (.cells #[.int .i64 (f:Int),.int .i64 (t:Int),.int .i64 g3,.int .i64 g4,.int .i64 g5] 75);replace R1:=R1.alloc (.cells #[.int .i64 (f:Int),.int .i64 (t:Int),.int .i64 g3,.int .i64 g4,.int .i64 g5] 75);replace hb:=hb.alloc hb.size (.cells #[.int .i64 (f:Int),.int .i64 (t:Int),.int .i64 g3,.int .i64 g4,.int .i64 g5] 75);generalize w1.alloc (.cells #[.int .i64 (f:Int),.int .i64 (t:Int),.int .i64 g3,.int .i64 g4,.int .i64 g5] 75)=w2 at *;clear y y0 y1 e1 e2 e3 e4 e5 hZ hbw;obtain ⟨y,y0,y1,-⟩:=id F1.facts2;obtain ⟨oz,oz0,oz1,-,-,-,-⟩:=id Lx.facts5;go_wp2_with fail;refine (IF.out _ (hs.below hb)).mono ?_;rintro e w3 ⟨P1,P2,P3,rfl,⟨k1,k2,k3⟩,HP,c3⟩;replace F1:=F1.below c3;replace R1:=R1.below c3;replace Lx:=Lx.below c3;replace hb:=hb.trans (c3.mono hb.size);clear c3 y y0 y1 oz oz0 oz1;obtain ⟨P,hPe⟩:=qN (w3.heap.size)
 have hZP:Z<P:=by have:=Lx.lt;omega
 go_upto_region 5 with fail
 try rw [hPe]
 have B1:At (w3.alloc (.cells #[.int .i64 P1,.int .i64 P2,.int .i64 P3] 109)) P [.int .i64 P1,.int .i64 P2,.int .i64 P3]:=At.new _ _ _ hPe.symm rfl;replace F1:=F1.alloc (.cells #[.int .i64 P1,.int .i64 P2,.int .i64 P3] 109);replace R1:=R1.alloc (.cells #[.int .i64 P1,.int .i64 P2,.int .i64 P3] 109);replace Lx:=Lx.alloc (.cells #[.int .i64 P1,.int .i64 P2,.int .i64 P3] 109);replace hb:=hb.alloc hb.size (.cells #[.int .i64 P1,.int .i64 P2,.int .i64 P3] 109);generalize w3.alloc (.cells #[.int .i64 P1,.int .i64 P2,.int .i64 P3] 109)=w4 at *;clear hPe;obtain ⟨y,y0,y1,-⟩:=id F1.facts2;obtain ⟨oz,oz0,oz1,-,-,-,-⟩:=id Lx.facts5;go_wp2_with fail;refine (IT.out _ (hs.below hb)).mono ?_;rintro e w5 ⟨Q1,Q2,Q3,rfl,⟨m1,m2,m3⟩,HQ,c5⟩;replace F1:=F1.below c5;replace R1:=R1.below c5;replace Lx:=Lx.below c5;replace B1:=B1.below c5;replace hb:=hb.trans (c5.mono hb.size);clear c5 y y0 y1 oz oz0 oz1;obtain ⟨Q,hQe⟩:=qN (w5.heap.size)
 have hPQ:P<Q:=by have:=B1.lt;omega
 go_upto_region 6 with fail
 try rw [hQe]
 have D1:At (w5.alloc (.cells #[.int .i64 Q1,.int .i64 Q2,.int .i64 Q3] 109)) Q [.int .i64 Q1,.int .i64 Q2,.int .i64 Q3]:=At.new _ _ _ hQe.symm rfl;replace R1:=R1.alloc (.cells #[.int .i64 Q1,.int .i64 Q2,.int .i64 Q3] 109);replace Lx:=Lx.alloc (.cells #[.int .i64 Q1,.int .i64 Q2,.int .i64 Q3] 109);replace B1:=B1.alloc (.cells #[.int .i64 Q1,.int .i64 Q2,.int .i64 Q3] 109);replace hb:=hb.alloc hb.size (.cells #[.int .i64 Q1,.int .i64 Q2,.int .i64 Q3] 109);generalize w5.alloc (.cells #[.int .i64 Q1,.int .i64 Q2,.int .i64 Q3] 109)=V at *;clear hQe F1;obtain ⟨oz,oz0,oz1,oz2,oz3,oz4,ozf⟩:=id Lx.facts5;obtain ⟨o,o0,o1,o2,of⟩:=id B1.facts3;obtain ⟨d,d0,d1,d2,df⟩:=id D1.facts3;obtain ⟨r,r0,r1,r2,rf⟩:=id R1.facts3;have nZ:Z≠X+1:=qO;have nP:P≠X+1:=qO;have nQ:Q≠X+1:=qO;have hXV:X+1<V.heap.size:=R1.lt
 have IL:=Lib.hid (fun (w:World)=>show Calls Tryz.prog 90 #[.agg #[.int .i64 (f:Int),.int .i64 (t:Int),.int .i64 g3,.int .i64 g4,.int .i64 g5]] w (fun e w'=>e=.returned (.agg #[.int .i64 g3,.int .i64 g4,.int .i64 g5])∧Below w.heap.size w w') from zae5 ⟨(f:Int),(t:Int),g3,g4,g5⟩ w)
 have IA:=Lib.hid (fun (w:World)=>show Calls Tryz.prog 185 #[.agg #[.int .i64 P1,.int .i64 P2,.int .i64 P3],.agg #[.int .i64 g3,.int .i64 g4,.int .i64 g5]] w (fun e w'=>e=.returned (.agg #[.int .i64 (P1+g3),.int .i64 (P2+g4),.int .i64 (P3+g5)])∧Below w.heap.size w w') from zae4 P1 P2 P3 g3 g4 g5 w qO qO qO qO qO qO)
 have IN:=Lib.hid (fun (w:World)=>show Calls Tryz.prog 186 #[.agg #[.int .i64 Q1,.int .i64 Q2,.int .i64 Q3],.int .i64 (-1)] w (fun e w'=>e=.returned (.agg #[.int .i64 (-Q1),.int .i64 (-Q2),.int .i64 (-Q3)])∧Below w.heap.size w w') from zats Q1 Q2 Q3 w qO qO qO)
 have IB:=Lib.hid (fun (w:World)=>show Calls Tryz.prog 185 #[.agg #[.int .i64 (P1+g3),.int .i64 (P2+g4),.int .i64 (P3+g5)],.agg #[.int .i64 (-Q1),.int .i64 (-Q2),.int .i64 (-Q3)]] w (fun e w'=>e=.returned (.agg #[.int .i64 (P1+g3 + -Q1),.int .i64 (P2+g4 + -Q2),.int .i64 (P3+g5 + -Q3)])∧Below w.heap.size w w') from zae4 (P1+g3) (P2+g4) (P3+g5) (-Q1) (-Q2) (-Q3) w qO qO qO qO qO qO)
 have FIN:=Lib.hid (HMS.out P1 P2 P3 Q1 Q2 Q3 HP.out HQ.out);clear HMS HP HQ k1 k2 k3 m1 m2 m3 p1 p2 p3 IF IT
 go_region_held3 (fun w'=>∀ b o,b<V.heap.size→b≠X+1→w'.cell? ⟨b,o,none⟩=V.cell? ⟨b,o,none⟩) (first|with_reducible exact zau3 qHb _ _ _|exact keptN qHb)
  (first
  | (go_at_call 90;with_reducible refine (IL.out _).mono ?_;rintro e wy ⟨rfl,c1⟩;have By:=zaae (V:=V) qHb c1;have zy:=By.size;clear c1)
  | (go_at_call 186;with_reducible refine (IN.out _).mono ?_;rintro e wn ⟨rfl,c2⟩;have Bn:=zaae (V:=V) qHb c2;have zn:=Bn.size;clear c2)
  | (go_at_call 185;with_reducible refine (IA.out _).mono ?_;rintro e wa ⟨rfl,c3⟩;have Ba:=zaae (V:=V) qHb c3;have za:=Ba.size;clear c3)
  | (go_at_call 185;with_reducible refine (IB.out _).mono ?_;rintro e wb ⟨rfl,c4⟩;have Bb:=zaae (V:=V) qHb c4;have R9:=R1.below Bb;obtain ⟨r9,r90,r91,r92,rf9⟩:=id R9.facts3;have zb:=Bb.size;clear c4))
 all_goals
  go_wp2_with fail;refine bodyPost_ret (v:=.tuple #[.agg #[.int .i64 (P1+g3 + -Q1),.int .i64 (P2+g4 + -Q2),.int .i64 (P3+g5 + -Q3)],.bool true]) (by simp [results,Tryz.results152,go_sem,r9,r90,r91,r92]) rfl ?_
  exact ⟨_,_,_,rfl,FIN,zabk (hb.trans (Bb.mono hb.size)) qO _ _ _⟩
theorem zau5 (a:Option Addr) (c n:Nat) (l:List Lg) (i:Nat) (w:World) (hv:svOk ⟨(n:Int),l⟩=true) (hi:i<l.length) (hs:Legs w a l):Calls Tryz.prog 147 #[.agg #[.int .i64 (n:Int),.slice a l.length c],.int .i64 (i:Int)] w (MissOut ⟨(n:Int),l⟩ (nth l i) w):=by
 obtain ⟨v1,v2,v3⟩:=st_in hv;simp only at v1 v2 v3
 have i1:=fun w h=>zaaa a c (n:Int) l w qO h
 rw [hv] at i1;obtain ⟨b,off,ea,hbw,e1,e2,e3,e4,e5⟩:=Legs.at hs hi;subst ea;have hE:=(zacb hv (nth l i) (zaaf hi)).1;have hP:=zabj hv (nth l i) (zaaf hi)
 have HMS:=Lib.hid (fun p q r p' q' r' h1 h2=>zam1 hv (g:=nth l i) (zaaf hi) (p:=p) (q:=q) (r:=r) (p':=p') (q':=q') (r':=r') h1 h2)
 have I4:=Lib.hid (fun x w hx h=>zal4 (some ⟨b,off,none⟩) c n l x w hv hx h)
 obtain ⟨⟨g1,g2,g3,g4,g5⟩,hg⟩:=qN (nth l i);rw [hg] at e1 e2 e3 e4 e5 hE hP HMS ⊢;obtain ⟨⟨a0,a1⟩,b0,b1⟩:=hE;simp only at e1 e2 e3 e4 e5 a0 a1 b0 b1 hP;obtain ⟨p1,p2,p3⟩:=hP;obtain ⟨f,rfl⟩:∃ f:Nat,g1=(f:Int):=⟨g1.toNat,by omega⟩;obtain ⟨t,rfl⟩:∃ t:Nat,g2=(t:Int):=⟨g2.toNat,by omega⟩
 have hfn:f<n:=by simp only [Int.toNat_natCast] at a1;omega
 have htn:t<n:=by simp only [Int.toNat_natCast] at b1;omega
 have IF:=Lib.hid (fun w h=>I4.out f w hfn h)
 have IT:=Lib.hid (fun w h=>I4.out t w htn h)
 have hin:inB (i:Int) 0 ((l.length:Int) - 1)=true:=by simp [inB];omega
 have hwl:IntKind.i64.wrap ((l.length:Int) - 1)=(l.length:Int) - 1:=by rw [IntKind.wrap_i64];omega
 have hi2:(i:Int)<(l.length:Int):=qO;clear hg hv a0 a1 b0 b1 I4
 go_enter Tryz.func147,Tryz.ntmps147
 go_wp2_with fail;refine (i1 _ (hs.below qBl)).mono ?_;rintro e w1 ⟨rfl,c1⟩;obtain ⟨X,hX⟩:=qN (w.heap.size);have F1:At w1 X [.int .i64 (n:Int),.slice (some ⟨b,off,none⟩) l.length c]:=((At.new _ #[.int .i64 (n:Int),.slice (some ⟨b,off,none⟩) l.length c] 25 hX.symm rfl).alloc _).below c1;have R1:At w1 (X+1) [.int .i64 0,.int .i64 0,.int .i64 0]:=(At.new _ #[.int .i64 0,.int .i64 0,.int .i64 0] 109 (by simp [hX]) rfl).below c1;have hb:Below w.heap.size w w1:=Below.trans qBl (c1.mono (by simp;omega));have hwX:w.heap.size≤X:=qO;have hbX:b<X:=qO;rw [hX];clear c1 hX i1;obtain ⟨y,y0,y1,-⟩:=id F1.facts2;replace e1:=(hb.cell (p:=⟨b,off+i*5,none⟩) hbw).trans e1;replace e2:=(hb.cell (p:=⟨b,off+i*5+1,none⟩) hbw).trans e2;replace e3:=(hb.cell (p:=⟨b,off+i*5+2,none⟩) hbw).trans e3;replace e4:=(hb.cell (p:=⟨b,off+i*5+3,none⟩) hbw).trans e4;replace e5:=(hb.cell (p:=⟨b,off+i*5+4,none⟩) hbw).trans e5;go_upto_region 4 with (go_at_call 85;refine (zaac _ _ _ _).mono ?_;rintro e w' ⟨rfl,rfl⟩);have Lx:At (w1.alloc (.cells #[.int .i64 (f:Int),.int .i64 (t:Int),.int .i64 g3,.int .i64 g4,.int .i64 g5] 75)) w1.heap.size [.int .i64 (f:Int),.int .i64 (t:Int),.int .i64 g3,.int .i64 g4,.int .i64 g5]:=At.new _ _ _ rfl rfl;obtain ⟨Z,hZ⟩:=qN (w1.heap.size)
 have hXZ:X+1<Z:=by have:=R1.lt;omega
 rw [hZ] at Lx ⊢;replace F1:=F1.alloc (.cells #[.int .i64 (f:Int),.int .i64 (t:Int),.int .i64 g3,.int .i64 g4,.int .i64 g5] 75);replace R1:=R1.alloc (.cells #[.int .i64 (f:Int),.int .i64 (t:Int),.int .i64 g3,.int .i64 g4,.int .i64 g5] 75);replace hb:=hb.alloc hb.size (.cells #[.int .i64 (f:Int),.int .i64 (t:Int),.int .i64 g3,.int .i64 g4,.int .i64 g5] 75);generalize w1.alloc (.cells #[.int .i64 (f:Int),.int .i64 (t:Int),.int .i64 g3,.int .i64 g4,.int .i64 g5] 75)=w2 at *;clear y y0 y1 e1 e2 e3 e4 e5 hZ hbw;obtain ⟨y,y0,y1,-⟩:=id F1.facts2;obtain ⟨oz,oz0,oz1,-,-,-,-⟩:=id Lx.facts5;go_wp2_with fail;refine (IF.out _ (hs.below hb)).mono ?_;rintro e w3 ⟨P1,P2,P3,rfl,⟨k1,k2,k3⟩,HP,c3⟩;replace F1:=F1.below c3;replace R1:=R1.below c3;replace Lx:=Lx.below c3;replace hb:=hb.trans (c3.mono hb.size);clear c3 y y0 y1 oz oz0 oz1;obtain ⟨P,hPe⟩:=qN (w3.heap.size)
 have hZP:Z<P:=by have:=Lx.lt;omega
 go_upto_region 5 with fail
 try rw [hPe]
 have B1:At (w3.alloc (.cells #[.int .i64 P1,.int .i64 P2,.int .i64 P3] 109)) P [.int .i64 P1,.int .i64 P2,.int .i64 P3]:=At.new _ _ _ hPe.symm rfl;replace F1:=F1.alloc (.cells #[.int .i64 P1,.int .i64 P2,.int .i64 P3] 109);replace R1:=R1.alloc (.cells #[.int .i64 P1,.int .i64 P2,.int .i64 P3] 109);replace Lx:=Lx.alloc (.cells #[.int .i64 P1,.int .i64 P2,.int .i64 P3] 109);replace hb:=hb.alloc hb.size (.cells #[.int .i64 P1,.int .i64 P2,.int .i64 P3] 109);generalize w3.alloc (.cells #[.int .i64 P1,.int .i64 P2,.int .i64 P3] 109)=w4 at *;clear hPe;obtain ⟨y,y0,y1,-⟩:=id F1.facts2;obtain ⟨oz,oz0,oz1,-,-,-,-⟩:=id Lx.facts5;go_wp2_with fail;refine (IT.out _ (hs.below hb)).mono ?_;rintro e w5 ⟨Q1,Q2,Q3,rfl,⟨m1,m2,m3⟩,HQ,c5⟩;replace F1:=F1.below c5;replace R1:=R1.below c5;replace Lx:=Lx.below c5;replace B1:=B1.below c5;replace hb:=hb.trans (c5.mono hb.size);clear c5 y y0 y1 oz oz0 oz1;obtain ⟨Q,hQe⟩:=qN (w5.heap.size)
 have hPQ:P<Q:=by have:=B1.lt;omega
 go_upto_region 6 with fail
 try rw [hQe]
 have D1:At (w5.alloc (.cells #[.int .i64 Q1,.int .i64 Q2,.int .i64 Q3] 109)) Q [.int .i64 Q1,.int .i64 Q2,.int .i64 Q3]:=At.new _ _ _ hQe.symm rfl;replace R1:=R1.alloc (.cells #[.int .i64 Q1,.int .i64 Q2,.int .i64 Q3] 109);replace Lx:=Lx.alloc (.cells #[.int .i64 Q1,.int .i64 Q2,.int .i64 Q3] 109);replace B1:=B1.alloc (.cells #[.int .i64 Q1,.int .i64 Q2,.int .i64 Q3] 109);replace hb:=hb.alloc hb.size (.cells #[.int .i64 Q1,.int .i64 Q2,.int .i64 Q3] 109);generalize w5.alloc (.cells #[.int .i64 Q1,.int .i64 Q2,.int .i64 Q3] 109)=V at *;clear hQe F1;obtain ⟨oz,oz0,oz1,oz2,oz3,oz4,ozf⟩:=id Lx.facts5;obtain ⟨o,o0,o1,o2,of⟩:=id B1.facts3;obtain ⟨d,d0,d1,d2,df⟩:=id D1.facts3;obtain ⟨r,r0,r1,r2,rf⟩:=id R1.facts3;have nZ:Z≠X+1:=qO;have nP:P≠X+1:=qO;have nQ:Q≠X+1:=qO;have hXV:X+1<V.heap.size:=R1.lt
 have IL:=Lib.hid (fun (w:World)=>show Calls Tryz.prog 177 #[.agg #[.int .i64 (f:Int),.int .i64 (t:Int),.int .i64 g3,.int .i64 g4,.int .i64 g5]] w (fun e w'=>e=.returned (.agg #[.int .i64 g3,.int .i64 g4,.int .i64 g5])∧Below w.heap.size w w') from zakn ⟨(f:Int),(t:Int),g3,g4,g5⟩ w)
 have IA:=Lib.hid (fun (w:World)=>show Calls Tryz.prog 128 #[.agg #[.int .i64 P1,.int .i64 P2,.int .i64 P3],.agg #[.int .i64 g3,.int .i64 g4,.int .i64 g5]] w (fun e w'=>e=.returned (.agg #[.int .i64 (P1+g3),.int .i64 (P2+g4),.int .i64 (P3+g5)])∧Below w.heap.size w w') from zadf P1 P2 P3 g3 g4 g5 w qO qO qO qO qO qO)
 have IN:=Lib.hid (fun (w:World)=>show Calls Tryz.prog 129 #[.agg #[.int .i64 Q1,.int .i64 Q2,.int .i64 Q3],.int .i64 (-1)] w (fun e w'=>e=.returned (.agg #[.int .i64 (-Q1),.int .i64 (-Q2),.int .i64 (-Q3)])∧Below w.heap.size w w') from zaf8 Q1 Q2 Q3 w qO qO qO)
 have IB:=Lib.hid (fun (w:World)=>show Calls Tryz.prog 128 #[.agg #[.int .i64 (P1+g3),.int .i64 (P2+g4),.int .i64 (P3+g5)],.agg #[.int .i64 (-Q1),.int .i64 (-Q2),.int .i64 (-Q3)]] w (fun e w'=>e=.returned (.agg #[.int .i64 (P1+g3 + -Q1),.int .i64 (P2+g4 + -Q2),.int .i64 (P3+g5 + -Q3)])∧Below w.heap.size w w') from zadf (P1+g3) (P2+g4) (P3+g5) (-Q1) (-Q2) (-Q3) w qO qO qO qO qO qO)
 have FIN:=Lib.hid (HMS.out P1 P2 P3 Q1 Q2 Q3 HP.out HQ.out);clear HMS HP HQ k1 k2 k3 m1 m2 m3 p1 p2 p3 IF IT
 go_region_held3 (fun w'=>∀ b o,b<V.heap.size→b≠X+1→w'.cell? ⟨b,o,none⟩=V.cell? ⟨b,o,none⟩) (first|with_reducible exact zau3 qHb _ _ _|exact keptN qHb)
  (first
  | (go_at_call 177;with_reducible refine (IL.out _).mono ?_;rintro e wy ⟨rfl,c1⟩;have By:=zaae (V:=V) qHb c1;have zy:=By.size;clear c1)
  | (go_at_call 129;with_reducible refine (IN.out _).mono ?_;rintro e wn ⟨rfl,c2⟩;have Bn:=zaae (V:=V) qHb c2;have zn:=Bn.size;clear c2)
  | (go_at_call 128;with_reducible refine (IA.out _).mono ?_;rintro e wa ⟨rfl,c3⟩;have Ba:=zaae (V:=V) qHb c3;have za:=Ba.size;clear c3)
  | (go_at_call 128;with_reducible refine (IB.out _).mono ?_;rintro e wb ⟨rfl,c4⟩;have Bb:=zaae (V:=V) qHb c4;have R9:=R1.below Bb;obtain ⟨r9,r90,r91,r92,rf9⟩:=id R9.facts3;have zb:=Bb.size;clear c4))
 all_goals
  go_wp2_with fail;refine bodyPost_ret (v:=.tuple #[.agg #[.int .i64 (P1+g3 + -Q1),.int .i64 (P2+g4 + -Q2),.int .i64 (P3+g5 + -Q3)],.bool true]) (by simp [results,Tryz.results147,go_sem,r9,r90,r91,r92]) rfl ?_
  exact ⟨_,_,_,rfl,FIN,zabk (hb.trans (Bb.mono hb.size)) qO _ _ _⟩
set_option maxHeartbeats 1000000
theorem zati (a:Option Addr) (c:Nat) (st:Int) (l:List Lg) (w:World) (hv:svOk ⟨st,l⟩=true) (hs:Legs w a l):Calls Tryz.prog 117 #[.agg #[.int .i64 st,.slice a l.length c]] w fun e w'=>e=.returned (.bool (closesF ⟨st,l⟩))∧Below w.heap.size w w':=by
 obtain ⟨v1,v2,v3⟩:=st_in hv;simp only at v1 v2 v3;obtain ⟨n,rfl⟩:∃ n:Nat,st=n:=⟨st.toNat,by omega⟩
 have i1:=fun w h=>zaab a c (n:Int) l w qO h
 rw [hv] at i1
 have I2:=Lib.hid (fun i w hi h=>zau4 a c n l i w hv hi h)
 have HNO:=Lib.hid (fun k (hk:k<l.length) (p q r:Int) (h:IsMiss ⟨(n:Int),l⟩ (nth l k) p q r) (hne:¬ (p=0∧q=0∧r=0))=>zam2 hv (g:=nth l k) (zaaf hk) h hne)
 have HYES:=Lib.hid (fun (h:∀ j,j<l.length→IsMiss ⟨(n:Int),l⟩ (nth l j) 0 0 0)=>zaky hv fun g hg=>by
  obtain ⟨j,hj,rfl⟩:=List.mem_iff_getElem.1 hg;have:=h j hj
  rwa [zacz hj] at this)
 obtain ⟨z,hz⟩:=qN (closesF ⟨(n:Int),l⟩);rw [hz] at HNO HYES ⊢;clear hz hv
 go_enter Tryz.func117,Tryz.ntmps117
 go_wp2_with fail;refine (i1 _ (hs.below qBl)).mono ?_;rintro e w1 ⟨rfl,b1⟩;obtain ⟨X,hX⟩:=qN (w.heap.size);have A1:At w1 X [.int .i64 (n:Int),.slice a l.length c]:=(At.new w #[.int .i64 (n:Int),.slice a l.length c] 25 hX.symm rfl).below b1;have hb:Below w.heap.size w w1:=((Below.refl _ _).alloc (Nat.le_refl _) _).trans (b1.mono qP);rw [hX];clear b1 i1;obtain ⟨y,y0,y1,-⟩:=id A1.facts2;go_wp2_with fail;clear y y0 y1
 go_loopw [12] (fun i wr=>∃ k:Nat,k≤l.length∧i=.int .i64 k∧Hid (∀ j,j<k→IsMiss ⟨(n:Int),l⟩ (nth l j) 0 0 0)∧At wr X [.int .i64 (n:Int),.slice a l.length c]∧Below w.heap.size w wr) (fun i _=>l.length - (intOf i).toNat)
 case atStart=>exact ⟨0,by omega,rfl,(fun j hj=>absurd hj qO),A1,hb⟩
 case round =>
  clear A1 hb;obtain ⟨k,hk,rfl,HK,A2,hb⟩:=hrel;obtain ⟨y,y0,y1,-⟩:=id A2.facts2
  by_cases hlt:k<l.length
  · have i2:=fun w h=>I2.out k w hlt h
    have hk2:(k:Int)<(l.length:Int):=qO;have hk9:(k:Int)≤9:=qO;go_wp2_with fail;refine (i2 _ (hs.below hb)).mono ?_;rintro e w4 ⟨p,q,r,rfl,HM,b4⟩;replace A2:=A2.below b4;replace hb:=hb.trans (b4.mono hb.size);clear b4 y y0 y1 i2;have HNK:=Lib.hid (HNO.out k hlt p q r HM.out)
    by_cases hz:p=0∧q=0∧r=0
    · obtain ⟨rfl,rfl,rfl⟩:=hz
      go_wp2_with fail;go_roundw
      case rel =>
       exact ⟨k+1,by omega,by go_num,(fun j hj=>by
        by_cases e:j=k
        · subst e;exact HM.out
        · exact HK.out j qO),A2.alloc _,hb.alloc hb.size _⟩
      case measure=>exact zaa3 hlt
    · have hzf:=HNK.out hz
      subst hzf
      by_cases hp:p=0
      · subst hp
        by_cases hq:q=0
        · subst hq
          have hr:(r == 0)=false:=by
           have:r≠0:=fun e=>hz ⟨rfl,rfl,e⟩
           simpa using this
          have hr2:¬ r=0:=by simpa using hr
          clear hz;go_wp2_with fail;go_ret
          exact ⟨rfl,hb.alloc hb.size _⟩
        · have hqb:(q == 0)=false:=by simpa using hq
          clear hz;go_wp2_with fail;go_ret
          exact ⟨rfl,hb.alloc hb.size _⟩
      · have hpb:(p == 0)=false:=by simpa using hp
        clear hz;go_wp2_with fail;go_ret
        exact ⟨rfl,hb.alloc hb.size _⟩
  · obtain rfl:k=l.length:=by omega
    have hyes:=HYES.out HK.out;subst hyes;go_wp2_with fail;go_ret
    exact ⟨rfl,by first|exact hb|exact hX▸hb⟩
theorem zarq (a:Option Addr) (c:Nat) (st:Int) (l:List Lg) (w:World) (hv:svOk ⟨st,l⟩=true) (hs:Legs w a l):Calls Tryz.prog 112 #[.agg #[.int .i64 st,.slice a l.length c]] w fun e w'=>e=.returned (.bool (closesF ⟨st,l⟩))∧Below w.heap.size w w':=by
 obtain ⟨v1,v2,v3⟩:=st_in hv;simp only at v1 v2 v3;obtain ⟨n,rfl⟩:∃ n:Nat,st=n:=⟨st.toNat,by omega⟩
 have i1:=fun w h=>zaaa a c (n:Int) l w qO h
 rw [hv] at i1
 have I2:=Lib.hid (fun i w hi h=>zau5 a c n l i w hv hi h)
 have HNO:=Lib.hid (fun k (hk:k<l.length) (p q r:Int) (h:IsMiss ⟨(n:Int),l⟩ (nth l k) p q r) (hne:¬ (p=0∧q=0∧r=0))=>zam2 hv (g:=nth l k) (zaaf hk) h hne)
 have HYES:=Lib.hid (fun (h:∀ j,j<l.length→IsMiss ⟨(n:Int),l⟩ (nth l j) 0 0 0)=>zaky hv fun g hg=>by
  obtain ⟨j,hj,rfl⟩:=List.mem_iff_getElem.1 hg;have:=h j hj
  rwa [zacz hj] at this)
 obtain ⟨z,hz⟩:=qN (closesF ⟨(n:Int),l⟩);rw [hz] at HNO HYES ⊢;clear hz hv
 go_enter Tryz.func112,Tryz.ntmps112
 go_wp2_with fail;obtain ⟨X,hX⟩:=qN (w.heap.size);have A1:At (w.alloc (.cells #[.int .i64 (n:Int),.slice a l.length c] 25)) X [.int .i64 (n:Int),.slice a l.length c]:=At.new w #[.int .i64 (n:Int),.slice a l.length c] 25 hX.symm rfl;have hb:Below w.heap.size w (w.alloc (.cells #[.int .i64 (n:Int),.slice a l.length c] 25)):=qBl;rw [hX];have I1:=Lib.hid i1;clear i1
 go_loopw [3] (fun i wr=>∃ k:Nat,k≤l.length∧i=.int .i64 k∧Hid (∀ j,j<k→IsMiss ⟨(n:Int),l⟩ (nth l j) 0 0 0)∧At wr X [.int .i64 (n:Int),.slice a l.length c]∧Below w.heap.size w wr) (fun i _=>l.length - (intOf i).toNat)
 case atStart=>exact ⟨0,by omega,rfl,(fun j hj=>absurd hj qO),A1,hb⟩
 case round =>
  clear A1 hb;obtain ⟨k,hk,rfl,HK,A2,hb⟩:=hrel;obtain ⟨y,y0,y1,-⟩:=id A2.facts2
  by_cases hlt:k<l.length
  · have i2:=fun w h=>I2.out k w hlt h
    have hk2:(k:Int)<(l.length:Int):=qO;have hk9:(k:Int)≤9:=qO;have i1:=I1.out;go_wp2_with fail;refine (i1 _ (hs.below hb)).mono ?_;rintro e w3 ⟨rfl,b3⟩;replace A2:=A2.below b3;replace hb:=hb.trans (b3.mono hb.size);clear b3 y y0 y1 i1;obtain ⟨y,y0,y1,-⟩:=id A2.facts2;go_wp2_with fail;refine (i2 _ (hs.below hb)).mono ?_;rintro e w4 ⟨p,q,r,rfl,HM,b4⟩;replace A2:=A2.below b4;replace hb:=hb.trans (b4.mono hb.size);clear b4 y y0 y1 i2;have HNK:=Lib.hid (HNO.out k hlt p q r HM.out)
    by_cases hz:p=0∧q=0∧r=0
    · obtain ⟨rfl,rfl,rfl⟩:=hz
      go_wp2_with fail;go_roundw
      case rel =>
       exact ⟨k+1,by omega,by go_num,(fun j hj=>by
        by_cases e:j=k
        · subst e;exact HM.out
        · exact HK.out j qO),A2.alloc _,hb.alloc hb.size _⟩
      case measure=>exact zaa3 hlt
    · have hzf:=HNK.out hz
      subst hzf
      by_cases hp:p=0
      · subst hp
        by_cases hq:q=0
        · subst hq
          have hr:(r == 0)=false:=by
           have:r≠0:=fun e=>hz ⟨rfl,rfl,e⟩
           simpa using this
          have hr2:¬ r=0:=by simpa using hr
          clear hz;go_wp2_with fail;go_ret
          exact ⟨rfl,hb.alloc hb.size _⟩
        · have hqb:(q == 0)=false:=by simpa using hq
          clear hz;go_wp2_with fail;go_ret
          exact ⟨rfl,hb.alloc hb.size _⟩
      · have hpb:(p == 0)=false:=by simpa using hp
        clear hz;go_wp2_with fail;go_ret
        exact ⟨rfl,hb.alloc hb.size _⟩
  · obtain rfl:k=l.length:=by omega
    have hyes:=HYES.out HK.out;subst hyes;have i1:=I1.out;go_wp2_with fail;refine (i1 _ (hs.below hb)).mono ?_;rintro e w3 ⟨rfl,b3⟩;replace hb:=hb.trans (b3.mono hb.size);go_wp2_with fail;go_ret
    exact ⟨rfl,by first|exact hb|exact hX▸hb⟩
end Go.Proofs.YthfoloefkfadlaaGreatDoor
