/- Walks: spec.StepsOk, spec.WayAdd, spec.WayTimes, spec.l1Way. -/
import Derived.Test.YthfoloefkfadlaaGreatDoorF2
set_option linter.unusedSimpArgs false
set_option linter.unusedVariables false
set_option maxRecDepth 100000
namespace Go.Proofs.YthfoloefkfadlaaGreatDoor
open Go Go.RowKit Go.Sort
theorem At.facts3 {w:World} {X:Nat} {a b c:Value} (h:At w X [a,b,c]):X<w.heap.size∧w.cell? ⟨X,0,none⟩=some a∧w.cell? ⟨X,1,none⟩=some b∧w.cell? ⟨X,2,none⟩=some c∧∀ j,w.frozen? ⟨X,j,none⟩=false :=
 ⟨h.lt,h.c 0 _ rfl,h.c 1 _ rfl,h.c 2 _ rfl,h.f⟩
theorem At.sets3 {w:World} {X:Nat} {u0 u1 u2:Value} (h:At w X [u0,u1,u2]) (a b c:Value):At (((w.setCell ⟨X,0,none⟩ a).setCell ⟨X,1,none⟩ b).setCell ⟨X,2,none⟩ c) X [a,b,c]:=((h.set 0 a).set 1 b).set 2 c
theorem zabk {B:Nat} {w w':World} (h:Below B w w') {X:Nat} (hX:B≤X) (a b c:Value):Below B w (((w'.setCell ⟨X,0,none⟩ a).setCell ⟨X,1,none⟩ b).setCell ⟨X,2,none⟩ c) :=
 ((h.setCell (p:=⟨X,0,none⟩) hX a).setCell (p:=⟨X,1,none⟩) hX b).setCell (p:=⟨X,2,none⟩) hX c
abbrev way3 (x y z:Int):Value:=.agg #[.int .i64 x,.int .i64 y,.int .i64 z]
def WyOut (x y z:Int) (w:World) (e:Ending) (w':World):Prop:=e=.returned (.agg #[.int .i64 x,.int .i64 y,.int .i64 z])∧Below w.heap.size w w'
theorem zadf (x y z u v t:Int) (w:World) (hx : -1000000000000≤x∧x≤1000000000000) (hy : -1000000000000≤y∧y≤1000000000000) (hz : -1000000000000≤z∧z≤1000000000000) (hu : -1000000000000≤u∧u≤1000000000000) (hv : -1000000000000≤v∧v≤1000000000000) (ht : -1000000000000≤t∧t≤1000000000000) :
 Calls Tryz.prog 128 #[way3 x y z,way3 u v t] w (WyOut (x+u) (y+v) (z+t) w):=by
 have w1:IntKind.i64.wrap (x+u)=x+u:=by rw [IntKind.wrap_i64];omega
 have w2:IntKind.i64.wrap (y+v)=y+v:=by rw [IntKind.wrap_i64];omega
 have w3:IntKind.i64.wrap (z+t)=z+t:=by rw [IntKind.wrap_i64];omega
 go_enter Tryz.func128,Tryz.ntmps128
 go_wp2
 refine bodyPost_ret (v:=way3 (x+u) (y+v) (z+t)) (by simp [results,Tryz.results128,go_sem]) rfl ⟨rfl,qBl⟩
theorem zaf8 (x y z:Int) (w:World) (hx : -1000000000000≤x∧x≤1000000000000) (hy : -1000000000000≤y∧y≤1000000000000) (hz : -1000000000000≤z∧z≤1000000000000) :
 Calls Tryz.prog 129 #[way3 x y z,.int .i64 (-1)] w (WyOut (-x) (-y) (-z) w):=by
 have w1:IntKind.i64.wrap (-x) = -x:=by rw [IntKind.wrap_i64];omega
 have w2:IntKind.i64.wrap (-y) = -y:=by rw [IntKind.wrap_i64];omega
 have w3:IntKind.i64.wrap (-z) = -z:=by rw [IntKind.wrap_i64];omega
 go_enter Tryz.func129,Tryz.ntmps129
 go_wp2
 refine bodyPost_ret (v:=way3 (-x) (-y) (-z)) (by simp [results,Tryz.results129,go_sem]) rfl ⟨rfl,qBl⟩
theorem zakn (g:Lg) (w:World):Calls Tryz.prog 177 #[g.val] w (WyOut g.east g.north g.up w):=by
 obtain ⟨x1,x2,x3,x4,x5⟩:=g
 show Calls Tryz.prog 177 #[.agg #[.int .i64 x1,.int .i64 x2,.int .i64 x3,.int .i64 x4,.int .i64 x5]] w _
 go_enter Tryz.func177,Tryz.ntmps177
 go_wp2
 refine bodyPost_ret (v:=way3 x3 x4 x5) (by simp [results,Tryz.results177,go_sem]) rfl ⟨rfl,qBl⟩
set_option maxHeartbeats 4000000
theorem zao9 {l:List Lg} {use:List Nat} {but frm tgt:Int} {st:List Stp} (h:Wlk l use but frm tgt st):∀ k,k<st.length→(nth st k).ix ∈ use∧(nth st k).beg l=if k=0 then frm else (nth st (k - 1)).fin l:=by
 induction h with
 | here=>intro k hk;simp at hk
 | @go but a c s st h1 h2 h3 h4 ih =>
   intro k hk
   cases k with
   | zero=>exact ⟨h1,h2⟩
   | succ k =>
     have:=ih k (by simpa using hk)
     refine ⟨this.1,?_⟩
     have e:=this.2
     show (nth st k).beg l=if k+1=0 then a else (nth (s :: st) k).fin l
     rw [e,if_neg (show ¬ k+1=0 by omega)]
     cases k with
     | zero=>rfl
     | succ k=>rw [if_neg (show ¬ k+1=0 by omega)];rfl
theorem zapa (a sa:Option Addr) (c sc:Nat) (n:Int) (l:List Lg) (use:List Nat) (but frm tgt:Int) (st:List Stp) (w:World) (hl:l.length≤1048576) (hsl:st.length≤1048576) (hv:svOk ⟨n,l⟩=true) (hu:∀ i ∈ use,i<l.length) (hW:Wlk l use but frm tgt st) (hs:Legs w a l) (hz:Stps w sa st) :
 Calls Tryz.prog 194 #[.agg #[.int .i64 n,.slice a l.length c],.slice sa st.length sc] w fun e w'=>e=.returned (.bool true)∧Below w.heap.size w w':=by
 have i1:=fun w h=>zaaa a c n l w hl h
 obtain ⟨v1,v2,v3,v4⟩:=svOk_iff.1 hv;simp only at v1 v2 v3 v4;rw [hv] at i1;have HW:=Lib.hid (zao9 hW);have HU:=Lib.hid hu
 have H6:=Lib.hid (fun k (hk:k<l.length)=>zach v2 (zabq v4 hk))
 clear hv hu hW v4
 go_enter Tryz.func194,Tryz.ntmps194
 go_wp2_with fail;refine (i1 _ (hs.below qBl)).mono ?_;rintro e w1 ⟨rfl,b1⟩;obtain ⟨X,hX⟩:=qN (w.heap.size);have A1:At w1 X [.int .i64 n,.slice a l.length c]:=(At.new w #[.int .i64 n,.slice a l.length c] 25 hX.symm rfl).below b1;have hb1:Below w.heap.size w w1:=((Below.refl _ _).alloc (Nat.le_refl _) _).trans (b1.mono qP);rw [hX];clear b1 i1 hX
 have mixed:Tryz.prog.follows Departure.mixedOrders=true:=by kernel_rfl
 go_wp2_with fail
 go_loopw [5,6] (fun pl i wr=>∃ (k:Nat) (A:Int),k≤st.length∧i=.int .i64 k∧pl=.int .i64 A∧Hid (A = -1∨(0<k∧A=(nth st (k - 1)).fin l))∧At wr X [.int .i64 n,.slice a l.length c]∧Below w.heap.size w wr) (fun _ i _=>st.length - (intOf i).toNat)
 case atStart=>exact ⟨0,-1,by omega,rfl,rfl,Lib.hid (.inl rfl),A1,hb1⟩
 case round =>
  obtain ⟨k,A,hk,rfl,rfl,HA,A2,hb⟩:=hrel;clear A1 hb1;obtain ⟨y,y0,y1,-⟩:=id A2.facts2
  by_cases hlt:k<st.length
  case neg =>
   obtain rfl:k=st.length:=qO;go_wp2_with fail;go_ret
   exact ⟨rfl,hb⟩
  obtain ⟨sb,so,rfl,hsb,s0,s1⟩:=Stps.at (hz.below hb) hlt;obtain ⟨hm,hbg⟩:=HW.out k hlt;have hq:=HU.out _ hm;have h6:=H6.out _ hq;have HBG:=Lib.hid hbg;have HFN:=Lib.hid (show (nth st k).fin l=if (nth st k).back then (nth l (nth st k).ix).frm else (nth l (nth st k).ix).to from rfl);have HBE:=Lib.hid (show (nth st k).beg l=if (nth st k).back then (nth l (nth st k).ix).to else (nth l (nth st k).ix).frm from rfl);obtain ⟨S,hS⟩:=qN (nth st k);rw [hS] at s0 s1 hq h6 HBG HFN HBE;have HS:=Lib.hid hS;clear hS hm hbg;obtain ⟨q,B⟩:=S;simp only at s0 s1 hq h6 HFN HBE;obtain ⟨b,off,rfl,hbw,e1,e2,e3,e4,e5⟩:=Legs.at (hs.below hb) hq;have i2:=zad4 (nth l q);have hr:=zaaq qO h6
  have i2:=fun w=>i2 w h6
  obtain ⟨⟨g1,g2,g3,g4,g5⟩,hg⟩:=qN (nth l q);rw [hg] at e1 e2 e3 e4 e5 i2 h6 HFN HBE hr;simp only [Lg.val,legBack] at e1 e2 e3 e4 e5 i2 HFN HBE hr;obtain ⟨hr1,hr2,hr3,hr4,hr5⟩:=hr;clear hg h6
  have hin:inB (q:Int) 0 ((l.length:Int) - 1)=true:=by simp [inB];omega
  have hwl:IntKind.i64.wrap ((l.length:Int) - 1)=(l.length:Int) - 1:=by rw [IntKind.wrap_i64];omega
  have hq2:(q:Int)<l.length:=qO;have hk2:(k:Int)<st.length:=qO;have i3:=zaac (q:Int) 0 ((l.length:Int) - 1);rw [hin] at i3;go_upto_region 7 with fail
  go_cut [27] (fun v wx=>v=.bool false∧Below wr.heap.size wr wx)
  case first =>
   go_region_held3 (fun w'=>Below wr.heap.size wr w'∧∀ b o,b<wr.heap.size→w'.cell? ⟨b,o,none⟩=wr.cell? ⟨b,o,none⟩) (exact kept qHb)
    ((go_at_call 85;refine (i3 _).mono ?_;rintro e wz ⟨rfl,rfl⟩))
   all_goals (go_wp2_with fail;go_meet)
   all_goals exact ⟨rfl,qHb⟩
  case rest =>
   obtain ⟨rfl,bb⟩:=hcut;replace A2:=A2.below bb;replace e1:=(bb.cell (p:=⟨b,off+q*5,none⟩) hbw).trans e1;replace e2:=(bb.cell (p:=⟨b,off+q*5+1,none⟩) hbw).trans e2;replace e3:=(bb.cell (p:=⟨b,off+q*5+2,none⟩) hbw).trans e3;replace e4:=(bb.cell (p:=⟨b,off+q*5+3,none⟩) hbw).trans e4;replace e5:=(bb.cell (p:=⟨b,off+q*5+4,none⟩) hbw).trans e5;replace s0:=(bb.cell (p:=⟨sb,so+k*2,none⟩) hsb).trans s0;replace s1:=(bb.cell (p:=⟨sb,so+k*2+1,none⟩) hsb).trans s1;replace hbw:=Nat.lt_of_lt_of_le hbw bb.size;replace hsb:=Nat.lt_of_lt_of_le hsb bb.size;replace hb:=hb.trans (bb.mono hb.size);clear bb y y0 y1 i3 hwl hin;obtain ⟨y,y0,y1,-⟩:=id A2.facts2;go_upto_region 9 with fail
   go_cut [7] (Boxed wc [.int .i64 g1,.int .i64 g2,.int .i64 g3,.int .i64 g4,.int .i64 g5])
   case first =>
    go_region_o
    all_goals (go_wp2_with fail;go_meet)
    all_goals exact ⟨_,rfl,Nat.le_refl _,by first|exact (At.new _ _ _ rfl rfl).drew|exact At.new _ _ _ rfl rfl,qBl⟩
   case rest =>
    obtain ⟨G,rfl,hG,AG,bG⟩:=hcut;replace A2:=A2.below bG;replace s1:=(bG.cell (p:=⟨sb,so+k*2+1,none⟩) hsb).trans s1
    have hGX:G≠X:=by have:=y;omega
    have hb1':w.heap.size≤G:=by have:=hb.size;omega
    replace hb:=hb.trans (bG.mono hb.size);clear bG y y0 y1 e1 e2 e3 e4 e5 hbw s0 hsb hG;have hzr:=hb.size;have hAk:=HA.out;have hbg:=HBG.out
    cases B with
    | false =>
      rw [if_neg (by decide)] at HFN HBE
      have hA1:A = -1∨(0≤A∧g1=A):=by
       have h1:=HBE.out
       rcases hAk with h|⟨h0,h⟩
       · exact .inl h
       · rw [if_neg qO,h1] at hbg
         exact .inr ⟨by omega,by omega⟩
      have HNX:Hid (g2 = -1∨(0<k+1∧g2=(nth st (k+1 - 1)).fin l)):=Lib.hid (.inr ⟨by omega,by rw [show k+1 - 1=k by omega,HS.out];exact HFN.out.symm⟩);clear HA hAk hbg HBG HFN HBE HS i2;obtain ⟨z,z0,z1,-,-,-,-⟩:=id AG.facts5
      rcases hA1 with rfl|⟨hA0,rfl⟩
      · go_wp2_with fail
        go_roundw
        case rel=>exact ⟨k+1,g2,by omega,by go_num,rfl,HNX,A2,hb⟩
        case measure=>simp [intOf];omega
      · go_wp2_with fail
        go_roundw
        case rel=>exact ⟨k+1,g2,by omega,by go_num,rfl,HNX,A2,hb⟩
        case measure=>simp [intOf];omega
    | true =>
      rw [if_pos rfl] at HFN HBE
      have hA1:A = -1∨(0≤A∧g2=A):=by
       have h1:=HBE.out
       rcases hAk with h|⟨h0,h⟩
       · exact .inl h
       · rw [if_neg qO,h1] at hbg
         exact .inr ⟨by omega,by omega⟩
      have HNX:Hid (g1 = -1∨(0<k+1∧g1=(nth st (k+1 - 1)).fin l)):=Lib.hid (.inr ⟨by omega,by rw [show k+1 - 1=k by omega,HS.out];exact HFN.out.symm⟩);clear HA hAk hbg HBG HFN HBE HS;obtain ⟨z,z0,z1,z2,z3,z4,zf⟩:=id AG.facts5
      have hwG:w.heap.size≤G:=by have:=hb1';omega
      have key:∀ (e:Ending) (w6:World),e=.returned (.agg #[.int .i64 g2,.int .i64 g1,.int .i64 (-g3),.int .i64 (-g4),.int .i64 (-g5)])∧Below wc.heap.size wc w6→At w6 X [.int .i64 n,.slice (some ⟨b,off,none⟩) l.length c]∧At w6 G [.int .i64 g1,.int .i64 g2,.int .i64 g3,.int .i64 g4,.int .i64 g5]∧Below w.heap.size w w6:=fun e w6 ⟨_,b6⟩=>⟨A2.below b6,AG.below b6,hb.trans (b6.mono hb.size)⟩
      have KEY:=Lib.hid key;clear key
      rcases hA1 with rfl|⟨hA0,rfl⟩
      · go_wp2_with (go_at_call 126;refine (i2 _).mono ?_;intro e w6 he;obtain ⟨A6,G6,hb6⟩:=KEY.out e w6 he;obtain ⟨rfl,b6⟩:=he;clear b6;obtain ⟨q1,q2,q3,q4,q5,q6,q7⟩:=id G6.facts5)
        go_roundw
        case rel=>exact ⟨k+1,g1,by omega,by go_num,rfl,HNX,((((A6.setOther (by show X≠G;omega) _).setOther (by show X≠G;omega) _).setOther (by show X≠G;omega) _).setOther (by show X≠G;omega) _).setOther (by show X≠G;omega) _,zaa1 hb6 hwG _ _ _ _ _⟩
        case measure=>simp [intOf];omega
      · go_wp2_with (go_at_call 126;refine (i2 _).mono ?_;intro e w6 he;obtain ⟨A6,G6,hb6⟩:=KEY.out e w6 he;obtain ⟨rfl,b6⟩:=he;clear b6;obtain ⟨q1,q2,q3,q4,q5,q6,q7⟩:=id G6.facts5)
        go_roundw
        case rel=>exact ⟨k+1,g1,by omega,by go_num,rfl,HNX,((((A6.setOther (by show X≠G;omega) _).setOther (by show X≠G;omega) _).setOther (by show X≠G;omega) _).setOther (by show X≠G;omega) _).setOther (by show X≠G;omega) _,zaa1 hb6 hwG _ _ _ _ _⟩
        case measure=>simp [intOf];omega
set_option maxHeartbeats 4000000
theorem zagy (f:Lg→Int) (l:List Lg) (st:List Stp) {k:Nat} (h:k<st.length):wayOf f l (st.take (k+1))=wayOf f l (st.take k)+(nth st k).way f l:=by
 rw [zabc h];simp [wayOf]
theorem zabo {f:Lg→Int} {l:List Lg} {st:List Stp} (hf:∀ k,k<st.length→-99≤f (nth l (nth st k).ix)∧f (nth l (nth st k).ix)≤99):∀ k,k≤st.length→-(99*(k:Int))≤wayOf f l (st.take k)∧wayOf f l (st.take k)≤99*(k:Int)
 | 0,_=>by simp [wayOf]
 | k+1,h=>by
   have ih:=zabo hf k qO;have:=hf k qO;rw [zagy f l st qO];unfold Stp.way
   split <;> omega
theorem zanq (a sa:Option Addr) (c sc:Nat) (n:Int) (l:List Lg) (use:List Nat) (but frm tgt:Int) (st:List Stp) (w:World) (hl:l.length≤1048576) (hsl:st.length≤1048576) (hv:svOk ⟨n,l⟩=true) (hu:∀ i ∈ use,i<l.length) (hW:Wlk l use but frm tgt st) (hs:Legs w a l) (hz:Stps w sa st) :
 Calls Tryz.prog 158 #[.agg #[.int .i64 n,.slice a l.length c],.slice sa st.length sc] w fun e w'=>e=.returned (.tuple #[.agg #[.int .i64 (wayOf Lg.east l st),.int .i64 (wayOf Lg.north l st),.int .i64 (wayOf Lg.up l st)],.bool true])∧Below w.heap.size w w':=by
 have i1:=fun w h1 h2=>zapa a sa c sc n l use but frm tgt st w hl hsl hv hu hW h1 h2
 obtain ⟨v1,v2,v3,v4⟩:=svOk_iff.1 hv;simp only at v1 v2 v3 v4
 have hlt:∀ k,k<st.length→(nth st k).ix<l.length:=fun k hk=>hu _ (zao9 hW k hk).1
 have hr:∀ k,k<st.length→legOk 6 (nth l (nth st k).ix)=true:=fun k hk=>zach v2 (zabq v4 (hlt k hk))
 have HLT:=Lib.hid hlt
 have HR:=Lib.hid (fun k hk=>zaaq qO (hr k hk))
 have HE:=Lib.hid (zabo (f:=Lg.east) (l:=l) (st:=st) fun k hk=>(HR.out k hk).2.2.1)
 have HN:=Lib.hid (zabo (f:=Lg.north) (l:=l) (st:=st) fun k hk=>(HR.out k hk).2.2.2.1)
 have HU:=Lib.hid (zabo (f:=Lg.up) (l:=l) (st:=st) fun k hk=>(HR.out k hk).2.2.2.2)
 have HT:=Lib.hid (fun f k (h:k<st.length)=>zagy f l st h)
 have HZ:=Lib.hid (fun (f:Lg→Int)=>show wayOf f l (st.take 0)=0 by simp [wayOf])
 have HF:=Lib.hid (fun (f:Lg→Int)=>show wayOf f l (st.take st.length)=wayOf f l st by rw [List.take_length])
 clear hv hu hW v4 hlt hr
 go_enter Tryz.func158,Tryz.ntmps158
 go_wp2_with fail;obtain ⟨X,hX⟩:=qN (w.heap.size);obtain ⟨W0,hW0⟩:=qM (((w.alloc (.cells #[.int .i64 n,.slice a l.length c] 25)).alloc (.cells #[.int .i64 0,.int .i64 0,.int .i64 0] 109)).alloc (.cells #[.int .i64 0,.int .i64 0,.int .i64 0] 109))
 have F0:At W0 X [.int .i64 n,.slice a l.length c]:=by rw [hW0];exact ((At.new _ _ _ hX.symm rfl).alloc _).alloc _
 have R0:At W0 (X+1) [.int .i64 0,.int .i64 0,.int .i64 0]:=by rw [hW0];exact (At.new _ _ _ (by simp [hX]) rfl).alloc _
 have O0:At W0 (X+1+1) [.int .i64 0,.int .i64 0,.int .i64 0]:=by rw [hW0];exact At.new _ _ _ (by simp [hX]) rfl
 have b0:Below w.heap.size w W0:=by rw [hW0];exact qBl
 rw [hX,← hW0];have hwX:w.heap.size≤X:=qO;clear hW0 hX;refine (i1 _ (hs.below b0) (hz.below b0)).mono ?_;rintro e w1 ⟨rfl,b1⟩;replace F0:=F0.below b1;replace R0:=R0.below b1;replace O0:=O0.below b1;replace b0:=b0.trans (b1.mono b0.size);clear b1 i1;go_wp2_with fail
 go_loopw [7] (fun i wr=>∃ k:Nat,k≤st.length∧i=.int .i64 k∧At wr X [.int .i64 n,.slice a l.length c]∧At wr (X+1) [.int .i64 0,.int .i64 0,.int .i64 0]∧At wr (X+1+1) [.int .i64 (wayOf Lg.east l (st.take k)),.int .i64 (wayOf Lg.north l (st.take k)),.int .i64 (wayOf Lg.up l (st.take k))]∧Below w.heap.size w wr) (fun i _=>st.length - (intOf i).toNat)
 case atStart=>exact ⟨0,by omega,rfl,F0,R0,by rw [HZ.out,HZ.out,HZ.out];exact O0,b0⟩
 case round =>
  obtain ⟨k,hk,rfl,F,R,O,hb⟩:=hrel;clear F0 R0 O0 b0;obtain ⟨y,y0,y1,-⟩:=id F.facts2
  by_cases hlt:k<st.length
  case neg =>
   obtain rfl:k=st.length:=qO;rw [HF.out,HF.out,HF.out] at O;obtain ⟨o,o0,o1,o2,-⟩:=id O.facts3;obtain ⟨r,r0,r1,r2,rf⟩:=id R.facts3;obtain ⟨E1,hE1⟩:=qM (wayOf Lg.east l st);obtain ⟨N1,hN1⟩:=qM (wayOf Lg.north l st);obtain ⟨U1,hU1⟩:=qM (wayOf Lg.up l st);rw [← hE1] at o0;rw [← hN1] at o1;rw [← hU1] at o2;have HE1:=Lib.hid hE1;have HN1:=Lib.hid hN1;have HU1:=Lib.hid hU1;clear HF HT HZ hE1 hN1 hU1 O;go_wp2_with fail;refine bodyPost_ret (v:=.tuple #[.agg #[.int .i64 E1,.int .i64 N1,.int .i64 U1],.bool true]) (by simp [results,Tryz.results158,go_sem,r,r0,r1,r2]) rfl ⟨by rw [HE1.out,HN1.out,HU1.out],?_⟩
   exact zabk hb qO _ _ _
  obtain ⟨sb,so,rfl,hsb,s0,s1⟩:=Stps.at (hz.below hb) hlt;have hq:=HLT.out k hlt;have hr:=HR.out k hlt;have q1:=HT.out Lg.east k hlt;have q2:=HT.out Lg.north k hlt;have q3:=HT.out Lg.up k hlt;have t1:=HE.out k qO;have t2:=HN.out k qO;have t3:=HU.out k qO;obtain ⟨S,hS⟩:=qN (nth st k);rw [hS] at s0 s1 hq hr q1 q2 q3;clear hS;obtain ⟨q,B⟩:=S;simp only [Stp.way] at s0 s1 hq hr q1 q2 q3;obtain ⟨b,off,rfl,hbw,e1,e2,e3,e4,e5⟩:=Legs.at (hs.below hb) hq;have i2:=zakn (nth l q);obtain ⟨⟨g1,g2,g3,g4,g5⟩,hg⟩:=qN (nth l q);rw [hg] at e1 e2 e3 e4 e5 i2 hr q1 q2 q3;simp only [Lg.val] at e1 e2 e3 e4 e5 i2 hr q1 q2 q3;obtain ⟨hr1,hr2,hr3,hr4,hr5⟩:=hr;clear hg;have Q1:=Lib.hid q1;have Q2:=Lib.hid q2;have Q3:=Lib.hid q3;clear q1 q2 q3;obtain ⟨E1,hE1⟩:=qN (wayOf Lg.east l (st.take k));obtain ⟨N1,hN1⟩:=qN (wayOf Lg.north l (st.take k));obtain ⟨U1,hU1⟩:=qN (wayOf Lg.up l (st.take k));rw [hE1] at O t1 Q1;rw [hN1] at O t2 Q2;rw [hU1] at O t3 Q3;clear hE1 hN1 hU1;have hq2:(q:Int)<l.length:=qO;have hk2:(k:Int)<st.length:=qO;go_upto_region 7 with fail
  go_cut [8] (Boxed wr [.int .i64 g3,.int .i64 g4,.int .i64 g5])
  case first =>
   go_region_held3 (fun w'=>Below wr.heap.size wr w'∧∀ b o,b<wr.heap.size→w'.cell? ⟨b,o,none⟩=wr.cell? ⟨b,o,none⟩) (exact kept qHb)
    ((go_at_call 177;refine (i2 _).mono ?_;rintro e wz ⟨rfl,c1⟩;have Bz:=zaae (V:=wr) qHb c1;have zz:=Bz.size;(first|have A0:=At.born c1|have A0:=At.bornD c1|skip);(first|obtain ⟨j0,j1,j2,j3,j4⟩:=A0.facts3|skip);clear c1))
   all_goals (go_wp2_with fail;go_meet)
   all_goals first
    | exact ⟨_,rfl,Nat.le_refl _,(A0.sets3 _ _ _),zabk Bz (Nat.le_refl _) _ _ _⟩
    | exact ⟨_,rfl,qSo,At.new _ _ _ rfl rfl,qHb⟩
    | exact ⟨_,rfl,qSo,(At.new _ _ _ rfl rfl).drew,qHb⟩
  case rest =>
   obtain ⟨G,rfl,hG,AG,bG⟩:=hcut;replace F:=F.below bG;replace R:=R.below bG;replace s1:=(bG.cell (p:=⟨sb,so+k*2+1,none⟩) hsb).trans s1
   have hXG:X+1+1<G:=by have:=O.lt;omega
   replace O:=O.below bG;replace hb:=hb.trans (bG.mono hb.size);clear bG y y0 y1 e1 e2 e3 e4 e5 hbw s0 hsb hG i2;have hwG:w.heap.size≤G:=qO;have hkl:(k:Int)≤1048576:=qO
   cases B with
   | false =>
     rw [if_neg (by decide)] at Q1 Q2 Q3
     have i4:=fun w=>zadf E1 N1 U1 g3 g4 g5 w qO qO qO qO qO qO
     obtain ⟨o,o0,o1,o2,of⟩:=id O.facts3;obtain ⟨z,z0,z1,z2,zf⟩:=id AG.facts3;go_wp2_with fail;refine (i4 _).mono ?_;rintro e w6 ⟨rfl,b6⟩;replace F:=F.below b6;replace R:=R.below b6;replace O:=O.below b6;replace hb:=hb.trans (b6.mono hb.size);clear b6 o o0 o1 o2 of z z0 z1 z2 zf i4;obtain ⟨o,o0,o1,o2,of⟩:=id O.facts3;go_wp2_with fail;go_roundw
     case rel=>exact ⟨k+1,by omega,by go_num,((F.setOther (by show X≠X+1+1;omega) _).setOther (by show X≠X+1+1;omega) _).setOther (by show X≠X+1+1;omega) _,((R.setOther (by show X+1≠X+1+1;omega) _).setOther (by show X+1≠X+1+1;omega) _).setOther (by show X+1≠X+1+1;omega) _,by rw [Q1.out,Q2.out,Q3.out];exact O.sets3 _ _ _,zabk hb qO _ _ _⟩
     case measure=>simp [intOf];omega
   | true =>
     rw [if_pos rfl] at Q1 Q2 Q3
     have i3:=fun w=>zaf8 g3 g4 g5 w qO qO qO
     have i4:=fun w=>zadf E1 N1 U1 (-g3) (-g4) (-g5) w qO qO qO qO qO qO
     obtain ⟨z,z0,z1,z2,zf⟩:=id AG.facts3;go_wp2_with fail;refine (i3 _).mono ?_;rintro e w5 ⟨rfl,b5⟩;replace F:=F.below b5;replace R:=R.below b5;replace O:=O.below b5;replace AG:=AG.below b5;replace hb:=hb.trans (b5.mono hb.size);clear b5 z z0 z1 z2 zf i3;obtain ⟨z,z0,z1,z2,zf⟩:=id AG.facts3;obtain ⟨o,o0,o1,o2,of⟩:=id O.facts3;go_wp2_with fail;replace F:=((F.setOther (p:=⟨G,0,none⟩) (by show X≠G;omega) (.int .i64 (-g3))).setOther (p:=⟨G,1,none⟩) (by show X≠G;omega) (.int .i64 (-g4))).setOther (p:=⟨G,2,none⟩) (by show X≠G;omega) (.int .i64 (-g5));replace R:=((R.setOther (p:=⟨G,0,none⟩) (by show X+1≠G;omega) (.int .i64 (-g3))).setOther (p:=⟨G,1,none⟩) (by show X+1≠G;omega) (.int .i64 (-g4))).setOther (p:=⟨G,2,none⟩) (by show X+1≠G;omega) (.int .i64 (-g5));replace O:=((O.setOther (p:=⟨G,0,none⟩) (by show X+1+1≠G;omega) (.int .i64 (-g3))).setOther (p:=⟨G,1,none⟩) (by show X+1+1≠G;omega) (.int .i64 (-g4))).setOther (p:=⟨G,2,none⟩) (by show X+1+1≠G;omega) (.int .i64 (-g5));replace hb:=zabk hb hwG (.int .i64 (-g3)) (.int .i64 (-g4)) (.int .i64 (-g5));clear o o0 o1 o2 of z z0 z1 z2 zf AG;refine (i4 _).mono ?_;rintro e w6 ⟨rfl,b6⟩;replace F:=F.below b6;replace R:=R.below b6;replace O:=O.below b6;replace hb:=hb.trans (b6.mono hb.size);clear b6 i4;obtain ⟨o,o0,o1,o2,of⟩:=id O.facts3;go_wp2_with fail;go_roundw
     case rel=>exact ⟨k+1,by omega,by go_num,((F.setOther (by show X≠X+1+1;omega) _).setOther (by show X≠X+1+1;omega) _).setOther (by show X≠X+1+1;omega) _,((R.setOther (by show X+1≠X+1+1;omega) _).setOther (by show X+1≠X+1+1;omega) _).setOther (by show X+1≠X+1+1;omega) _,by rw [Q1.out,Q2.out,Q3.out];exact O.sets3 _ _ _,zabk hb qO _ _ _⟩
     case measure=>simp [intOf];omega
set_option maxHeartbeats 4000000
def rootS (s:Sv) (x:Int):Int:=nth (partsOf s.st.toNat s.legs) x.toNat
theorem zakj {n:Nat} {l:List Lg} (hl:∀ g ∈ l,EdgeIn n g) {a b:Int} (h:Reach l a b):Reach (legsAt l (treeSt n l l.length).2) a b:=by
 refine h.map fun a b lk=>?_
 obtain ⟨g,hg,hd⟩:=lk;obtain ⟨i,hi,rfl⟩:=List.mem_iff_getElem.1 hg;have:=(zaki hl l.length (Nat.le_refl _)).all i hi;rw [zacz hi] at this
 rcases hd with ⟨rfl,rfl⟩|⟨rfl,rfl⟩
 · exact this
 · exact this.symm
theorem zaup {st:Int} {l:List Lg} (hv:svOk ⟨st,l⟩=true) {x:Int} (hx:inSt st x):inSt st (rootS ⟨st,l⟩ x)∧∃ sp,Wlk l (treeS ⟨st,l⟩) (-1) (rootS ⟨st,l⟩ x) x sp:=by
 have hE:=zadm hv;have hp:=zahr (n:=st.toNat) l hE;obtain ⟨x0,x1⟩:=hx;have hx2:x.toNat<st.toNat:=qO;have hlo:=hp.lo x.toNat hx2;have hre:=hp.reach x.toNat hx2;rw [show ((x.toNat:Nat):Int)=x by omega] at hre;refine ⟨⟨hlo.1,?_⟩,?_⟩
 · have h2:=hlo.2
   show nth (partsOf st.toNat l) x.toNat<st
   omega
 · have e:treeS ⟨st,l⟩=(treeSt st.toNat l l.length).2:=by simp [treeS,treeF,hv]
   rw [e]
   refine zao5 (fun i hi=>?_) (zakj hE hre).symm
   have:=(zac7 hE (Nat.le_refl _) i hi).2;obtain ⟨⟨_,_⟩,_,_⟩:=this
   omega
def IsPlace (s:Sv) (x:Int) (p q r:Int):Prop:=∀ f g h:Int→Int,Pot Lg.east (legsAt s.legs (treeS s)) f→Pot Lg.north (legsAt s.legs (treeS s)) g→Pot Lg.up (legsAt s.legs (treeS s)) h→p=f x - f (rootS s x)∧q=g x - g (rootS s x)∧r=h x - h (rootS s x)
def PlaceOut (s:Sv) (x:Int) (w:World) (e:Ending) (w':World):Prop :=
 ∃ (p q r:Int) (b:Bool),e=.returned (.tuple #[.agg #[.int .i64 p,.int .i64 q,.int .i64 r],.bool b])∧(-10000000≤p∧p≤10000000)∧(-10000000≤q∧q≤10000000)∧(-10000000≤r∧r≤10000000)∧(svOk s=true∧inSt s.st x→b=true∧IsPlace s x p q r)∧(¬ (svOk s=true∧inSt s.st x)→p=0∧q=0∧r=0∧b=false)∧Below w.heap.size w w'
theorem zaea (a:Option Addr) (c:Nat) (st:Int) (l:List Lg) (x:Int) (w:World) (hl:l.length≤1048576) (hs:Legs w a l) :
 Calls Tryz.prog 127 #[.agg #[.int .i64 st,.slice a l.length c],.int .i64 x] w (PlaceOut ⟨st,l⟩ x w):=by
 have i1:=fun w h=>zaaa a c st l w hl h
 by_cases hgood:svOk ⟨st,l⟩=true∧inSt st x
 case neg =>
  have fin:∀ w',Below w.heap.size w w'→PlaceOut ⟨st,l⟩ x w (.returned (.tuple #[.agg #[.int .i64 0,.int .i64 0,.int .i64 0],.bool false])) w':=fun w' hb =>
   ⟨0,0,0,false,rfl,by omega,by omega,by omega,fun h=>absurd h hgood,fun _=>⟨rfl,rfl,rfl,rfl⟩,hb⟩
  have FIN:=Lib.hid fin
  cases hv:svOk ⟨st,l⟩
  · rw [hv] at i1
    clear hgood fin
    go_enter Tryz.func127,Tryz.ntmps127
    go_wp2_with fail;refine (i1 _ (hs.below qBl)).mono ?_;rintro e w1 ⟨rfl,b1⟩;obtain ⟨X,hX⟩:=qN (w.heap.size);have R1:At w1 (X+1) [.int .i64 0,.int .i64 0,.int .i64 0]:=(At.new _ #[.int .i64 0,.int .i64 0,.int .i64 0] 109 (by simp [hX]) rfl).below b1;have hb:Below w.heap.size w w1:=Below.trans qBl (b1.mono (by simp;omega));rw [hX];clear b1;obtain ⟨r,r0,r1,r2,rf⟩:=id R1.facts3;go_wp2_with fail;refine bodyPost_ret (v:=.tuple #[.agg #[.int .i64 0,.int .i64 0,.int .i64 0],.bool false]) (by simp [results,Tryz.results127,go_sem,r,r0,r1,r2]) rfl ?_
    exact FIN.out _ (zabk hb qO _ _ _)
  · obtain ⟨v1,v2,v3,v4⟩:=svOk_iff.1 hv
    simp only at v1 v2 v3
    have hx:¬ (0≤x∧x<st):=fun h=>hgood ⟨hv,h⟩
    have hin:inB x 0 (st - 1)=false:=by simp [inB];omega
    have hst:IntKind.i64.wrap (st - 1)=st - 1:=by rw [IntKind.wrap_i64];omega
    rw [hv] at i1;clear hgood fin hv v4
    go_enter Tryz.func127,Tryz.ntmps127
    go_wp2_with fail;refine (i1 _ (hs.below qBl)).mono ?_;rintro e w1 ⟨rfl,b1⟩;obtain ⟨X,hX⟩:=qN (w.heap.size);have F1:At w1 X [.int .i64 st,.slice a l.length c]:=((At.new _ #[.int .i64 st,.slice a l.length c] 25 hX.symm rfl).alloc _).below b1;have R1:At w1 (X+1) [.int .i64 0,.int .i64 0,.int .i64 0]:=(At.new _ #[.int .i64 0,.int .i64 0,.int .i64 0] 109 (by simp [hX]) rfl).below b1;have hb:Below w.heap.size w w1:=Below.trans qBl (b1.mono (by simp;omega));rw [hX];clear b1;obtain ⟨r,r0,r1,r2,rf⟩:=id R1.facts3;obtain ⟨y,y0,y1,-⟩:=id F1.facts2
    go_wp2_with (go_at_call 85;refine (zaac _ _ _ _).mono ?_;rintro e w' ⟨rfl,rfl⟩)
    refine bodyPost_ret (v:=.tuple #[.agg #[.int .i64 0,.int .i64 0,.int .i64 0],.bool false]) (by simp [results,Tryz.results127,go_sem,r,r0,r1,r2]) rfl ?_
    exact FIN.out _ (zabk hb qO _ _ _)
 obtain ⟨hv,hx⟩:=hgood;obtain ⟨v1,v2,v3,v4⟩:=svOk_iff.1 hv;simp only at v1 v2 v3;obtain ⟨hroot,sp,hsp⟩:=zaup hv hx;have hx':=hx;obtain ⟨x0,x1⟩:=hx'
 have hin:inB x 0 (st - 1)=true:=by simp [inB];omega
 have hst:IntKind.i64.wrap (st - 1)=st - 1:=by rw [IntKind.wrap_i64];omega
 have hE:=zadm hv
 have e:treeS ⟨st,l⟩=(treeSt st.toNat l l.length).2:=by simp [treeS,treeF,hv]
 have hu:∀ i ∈ treeS ⟨st,l⟩,i<l.length:=fun i hi=>by rw [e] at hi;exact (zac7 hE (Nat.le_refl _) i hi).1
 have i2:=fun w h=>zakm a c st l w hl h
 have i3:=fun w h=>zao8 a c st l (rootS ⟨st,l⟩ x) x w hl h
 have i4:=fun sa sc (ss:List Stp) (hsl:ss.length≤1048576) (hW:Wlk l (treeS ⟨st,l⟩) (-1) (rootS ⟨st,l⟩ x) x ss) w h1 h2=>zanq a sa c sc st l _ _ _ _ ss w hl hsl hv hu hW h1 h2
 have hP:partsS ⟨st,l⟩=partsOf st.toNat l:=by simp [partsS,hv]
 have hpl:=zabr st.toNat l;have hroot':rootS ⟨st,l⟩ x=nth (partsOf st.toNat l) x.toNat:=rfl
 have HOK:=Lib.hid (fun (ss:List Stp) (ok:Bool) (h1:ok=true→(svOk ⟨st,l⟩=true∧inSt st (rootS ⟨st,l⟩ x)∧inSt st x)∧Wlk l (treeS ⟨st,l⟩) (-1) (rootS ⟨st,l⟩ x) x ss) (h2:ok=false→ss=[]∧((svOk ⟨st,l⟩=true∧inSt st (rootS ⟨st,l⟩ x)∧inSt st x)→∀ st',¬ Wlk l (treeS ⟨st,l⟩) (-1) (rootS ⟨st,l⟩ x) x st'))=>show Wlk l (treeS ⟨st,l⟩) (-1) (rootS ⟨st,l⟩ x) x ss by
  cases ok with
  | true=>exact (h1 rfl).2
  | false=>exact absurd hsp ((h2 rfl).2 ⟨hv,hroot,hx⟩ sp))
 have HSUM:=Lib.hid (fun (ss:List Stp) (hW:Wlk l (treeS ⟨st,l⟩) (-1) (rootS ⟨st,l⟩ x) x ss)=>show IsPlace ⟨st,l⟩ x (wayOf Lg.east l ss) (wayOf Lg.north l ss) (wayOf Lg.up l ss) from fun f g h hf hg hh=>⟨hW.sum hf,hW.sum hg,hW.sum hh⟩)
 have HBD:=Lib.hid (fun (ss:List Stp) (hsl:ss.length≤100000) (hW:Wlk l (treeS ⟨st,l⟩) (-1) (rootS ⟨st,l⟩ x) x ss)=>show (-10000000≤wayOf Lg.east l ss∧wayOf Lg.east l ss≤10000000)∧(-10000000≤wayOf Lg.north l ss∧wayOf Lg.north l ss≤10000000)∧(-10000000≤wayOf Lg.up l ss∧wayOf Lg.up l ss≤10000000) by
  have hr:∀ k,k<ss.length→legOk 6 (nth l (nth ss k).ix)=true:=fun k hk=>zach v2 (zabq v4 (hu _ (zao9 hW k hk).1))
  have k1:=zabo (f:=Lg.east) (l:=l) (st:=ss) (fun k hk=>(zaaq qO (hr k hk)).2.2.1) ss.length (Nat.le_refl _)
  have k2:=zabo (f:=Lg.north) (l:=l) (st:=ss) (fun k hk=>(zaaq qO (hr k hk)).2.2.2.1) ss.length (Nat.le_refl _)
  have k3:=zabo (f:=Lg.up) (l:=l) (st:=ss) (fun k hk=>(zaaq qO (hr k hk)).2.2.2.2) ss.length (Nat.le_refl _)
  rw [List.take_length] at k1 k2 k3
  omega)
 have HGD:=Lib.hid (⟨hv,hx⟩:svOk ⟨st,l⟩=true∧inSt st x);rw [hP] at i2;rw [hroot'] at i3 i4 HOK;obtain ⟨p,hp⟩:=qN (partsOf st.toNat l);rw [hp] at i2 i3 hpl i4 HOK;obtain ⟨n,rfl⟩:∃ n:Nat,st=n:=⟨st.toNat,by omega⟩;obtain ⟨X2,rfl⟩:∃ n:Nat,x=n:=⟨x.toNat,by omega⟩;rw [hv] at i1
 have hX2:X2<p.length:=by rw [hpl];omega
 have hX3:(X2:Int)<p.length:=qO;simp only [Int.toNat_natCast] at i3 i4 HOK;obtain ⟨rt,hrt⟩:=qN (nth p X2);rw [hrt] at i3 i4 HOK;have HRT:=Lib.hid hrt;have HSUM2:=HSUM;have HBD2:=HBD;rw [hroot'] at HSUM2 HBD2;simp only [Int.toNat_natCast] at hp;simp only [Int.toNat_natCast,hp,hrt] at HSUM2 HBD2;clear hrt hroot' hroot hsp hu e hE hv v4 hP hx HSUM HBD hp;obtain ⟨us,hus⟩:=qM (treeS ⟨(n:Int),l⟩);rw [← hus] at i3 i4 HOK HSUM2 HBD2;clear hus;obtain ⟨pl,hpl2⟩:=qM (p.length)
 go_enter Tryz.func127,Tryz.ntmps127
 go_wp2_with fail;refine (i1 _ (hs.below qBl)).mono ?_;rintro e w1 ⟨rfl,b1⟩;obtain ⟨X,hX⟩:=qN (w.heap.size);have F1:At w1 X [.int .i64 (n:Int),.slice a l.length c]:=((At.new _ #[.int .i64 (n:Int),.slice a l.length c] 25 hX.symm rfl).alloc _).below b1;have R1:At w1 (X+1) [.int .i64 0,.int .i64 0,.int .i64 0]:=(At.new _ #[.int .i64 0,.int .i64 0,.int .i64 0] 109 (by simp [hX]) rfl).below b1;have hb:Below w.heap.size w w1:=Below.trans qBl (b1.mono (by simp;omega));have hwX:w.heap.size≤X+1:=qO;rw [hX];clear b1 hX i1;obtain ⟨y,y0,y1,-⟩:=id F1.facts2;have hs1:=hs.below hb;go_upto_region 3 with (go_at_call 85;refine (zaac _ _ _ _).mono ?_;rintro e w' ⟨rfl,rfl⟩)
 go_cut [6] (fun v wx=>∃ (ss:List Stp) (av:Option Addr) (cv:Nat),v=.slice av ss.length cv∧OwnS wx w1.heap.size (.slice av ss.length cv) ss∧Wlk l us (-1) rt (X2:Int) ss∧ss.length≤100000∧Below w1.heap.size w1 wx)
 case first =>
  go_region_law
   (first
   | (go_simp;go_at_call 157;refine (i2 _ (hs1.below qHb)).mono ?_;rintro e wy ⟨ay,cy,rfl,oy,c1⟩;obtain ⟨g,rfl,-,-,hgl,gc,-⟩:=OwnZ.form1 oy qO;have gx:=gc X2 hX2;rw [HRT.out] at gx;have By:=zaae (V:=w1) qHb c1;(first|clear CX|skip);have CX:∀ b o,b<w1.heap.size→wy.cell? ⟨b,o,none⟩=w1.cell? ⟨b,o,none⟩:=fun b o hl=>By.cell (p:=⟨b,o,none⟩) hl;have zy:=By.size;clear c1 gc)
   | (go_simp;go_at_call 156;refine (i3 _ (hs1.below qHb)).mono ?_;rintro e wz ⟨ss,ok,sv,sc,rfl,oz,k1,k2,k3,c1⟩;have kw:=HOK.out ss ok k1 k2;have Bz:=zaae (V:=w1) qHb c1;(first|clear CX|skip);have CX:∀ b o,b<w1.heap.size→wz.cell? ⟨b,o,none⟩=w1.cell? ⟨b,o,none⟩:=fun b o hl=>Bz.cell (p:=⟨b,o,none⟩) hl;have zz:=Bz.size;clear c1 k1 k2))
  all_goals (go_wp2_with fail;go_meet)
  all_goals exact ⟨ss,sv,sc,rfl,oz.mono qSo,kw,k3,qHb⟩
 case rest =>
  obtain ⟨ss,sv,sc,rfl,os,kw,k3,bb⟩:=hcut;replace F1:=F1.below bb;replace R1:=R1.below bb;replace hb:=hb.trans (bb.mono hb.size);clear bb y y0 y1 hs1 i2 i3 HOK;obtain ⟨y,y0,y1,-⟩:=id F1.facts2;have HS:=Lib.hid (HSUM2.out ss kw);have HB:=Lib.hid (HBD2.out ss k3 kw);have i5:=i4 sv sc ss qO kw;clear i4 HSUM2 HBD2 kw;obtain ⟨E1,hE1⟩:=qN (wayOf Lg.east l ss);obtain ⟨N1,hN1⟩:=qN (wayOf Lg.north l ss);obtain ⟨U1,hU1⟩:=qN (wayOf Lg.up l ss);rw [hE1,hN1,hU1] at HS HB i5;clear hE1 hN1 hU1;go_wp2_with fail;refine (i5 _ (hs.below hb) os.kr).mono ?_;rintro e w6 ⟨rfl,b6⟩;replace R1:=R1.below b6;replace hb:=hb.trans (b6.mono hb.size);clear b6 i5 y y0 y1;obtain ⟨r,r0,r1,r2,rf⟩:=id R1.facts3;go_wp2_with fail;refine bodyPost_ret (v:=.tuple #[.agg #[.int .i64 E1,.int .i64 N1,.int .i64 U1],.bool true]) (by simp [results,Tryz.results127,go_sem,r,r0,r1,r2]) rfl ?_;obtain ⟨q1,q2,q3⟩:=HB.out
  exact ⟨E1,N1,U1,true,rfl,q1,q2,q3,fun _=>⟨rfl,HS.out⟩,fun h=>absurd HGD.out h,zabk hb qO _ _ _⟩
end Go.Proofs.YthfoloefkfadlaaGreatDoor
