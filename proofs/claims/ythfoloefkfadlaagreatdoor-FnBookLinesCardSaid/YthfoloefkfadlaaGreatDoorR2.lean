/- Walks of draws: spec.l20Survey whole. -/
import Derived.Test.YthfoloefkfadlaaGreatDoorR1
set_option linter.unusedSimpArgs false
set_option linter.unusedVariables false
set_option maxHeartbeats 8000000
set_option maxRecDepth 100000
namespace Go.Proofs.YthfoloefkfadlaaGreatDoor
open Go Go.RowKit Go.Sort
theorem zagw (w:World) (g:Lg) (T:TypeId):Legs (w.alloc (.cells #[.int .i64 g.frm,.int .i64 g.to,.int .i64 g.east,.int .i64 g.north,.int .i64 g.up] T)) (some ⟨w.heap.size,0,none⟩) [g]:=by
 refine KRd.mk qP fun j u hu=>?_
 rw [Nat.zero_add]
 exact (At.new (X:=w.heap.size) w _ T rfl rfl).c j u (by rw [zaa4,zabi,List.append_nil] at hu;exact hu)
theorem zawb (w:World):(Instr.makeSlice 23 (.int .i64 10) (.int .i64 10)).run Tryz.prog w =
 .ok (.slice (some ⟨w.heap.size,0,none⟩) 10 10) (w.alloc (.cells (madeCells #[.int .i64 0,.int .i64 0,.int .i64 0,.int .i64 0,.int .i64 0] 50) 75)):=zayj 10 qO w
theorem zawc (w:World) (B:Nat) (hB:B≤w.heap.size):OwnL (w.alloc (.cells (madeCells #[.int .i64 0,.int .i64 0,.int .i64 0,.int .i64 0,.int .i64 0] 50) 75)) B (.slice (some ⟨w.heap.size,0,none⟩) (List.replicate 10 noLeg).length 10) (List.replicate 10 noLeg):=by
 have:=World.ownsRow_lit (base:=B) (size:=5) (e:=75) w (madeCells #[.int .i64 0,.int .i64 0,.int .i64 0,.int .i64 0,.int .i64 0] 50) 10 hB (by decide) (by kernel_rfl)
 have e:(madeCells #[.int .i64 0,.int .i64 0,.int .i64 0,.int .i64 0,.int .i64 0] 50).toList=legK.flat (List.replicate 10 noLeg):=by kernel_rfl
 rw [e] at this
 exact this
theorem zann (R:Nat) (a:Option Addr) (n c p N:Nat) (w:World) (h:Rdr w R a n c p) (hp:p≤50000) (hN:N≤100) :
 Calls Tryz.prog 78 #[.pointer (some ⟨R,0,none⟩),.int .i64 (N:Int)] w (DrawnSv R a n c p w):=by
 go_enter Tryz.func78,Tryz.ntmps78
 go_wp2_with fail;obtain ⟨X,hX⟩:=qN (w.heap.size);obtain ⟨W0,hW0⟩:=qM (w.alloc (.cells #[.int .i64 0,.slice none 0 0] 25))
 have F:At W0 X [.int .i64 0,.slice none 0 0]:=by rw [hW0];exact At.new _ _ _ hX.symm rfl
 have b0:Below w.heap.size w W0:=by rw [hW0];exact qBl
 rw [hX,← hW0]
 have hRX:R<X:=by have:=h.lt;omega
 have hcode:∀ b off,0<n→a=some ⟨b,off,none⟩→b<X:=fun b off h0 e=>by
  obtain ⟨b',off',e',hlt,_⟩:=h.bytes h0;rw [e] at e'
  cases e'
  omega
 have u:Upto X R w W0:=by rw [← hX];exact Upto.of b0
 replace h:=h.below b0;clear b0 hW0;refine (zaao _ _ _ _ _ _ _ h qO qO).mono ?_;rintro e w1 ⟨k1,rfl,hk1,-,h,u1⟩;replace F:=F.upto (u1 (X+1)) qO qO;replace u:=u.trans (u1 _);clear u1;replace hk1:=hk1 qO;go_wp2_with fail;obtain ⟨S,hS⟩:∃ S:Nat,S=2+k1:=⟨_,rfl⟩;have hSi:(2:Int)+k1=S:=qO;rw [hSi];obtain ⟨Y,hY⟩:=qN (w1.heap.size);obtain ⟨V,hV⟩:=qM (w1.alloc (.cells #[.int .i64 (S:Int),.slice none 0 0] 25))
 have G:At V Y [.int .i64 (S:Int),.slice none ([]:List Lg).length 0]:=by rw [hV];exact At.new _ _ _ hY.symm rfl
 have bV:Below w1.heap.size w1 V:=by rw [hV];exact qBl
 rw [hY,← hV]
 have hXY:X<Y:=by have:=F.lt;omega
 obtain ⟨B,hB⟩:=qN (V.heap.size);have H0:SvSt w R X Y B a n c (p+1) S none 0 [] V:=⟨h.below bV,F.below bV,G,KOwn.nil,u.trans (Upto.of (bV.mono qO)),by omega,hRX,hXY,by have:=G.lt;omega,hcode⟩;have hS2:2≤S∧S≤6:=qO;clear bV hV hY F G u hk1 hSi hS hB h;refine (zaao _ _ _ _ _ _ _ H0.r qO qO).mono ?_;rintro e w2 ⟨k2,rfl,-,-,h,u1⟩;have H1:=H0.pick h u1;clear h u1 H0;go_wp2_with fail;obtain ⟨lb,hlb⟩:∃ lb:Bool,((k2:Int) == 0)=lb:=⟨_,rfl⟩;rw [hlb];clear hlb
 go_loopw [7] (fun i wr=>∃ (k q:Nat) (av:Option Addr) (cv:Nat) (legs:List Lg),1≤k∧k≤S∧i=.int .i64 k∧legs.length≤k - 1∧q≤p+2+20*k∧SvSt w R X Y B a n c q S av cv legs wr) (fun i _=>S - (intOf i).toNat)
 case atStart=>exact ⟨1,p+2,none,0,[],by omega,by omega,rfl,by simp,by omega,H1⟩
 case round =>
  obtain ⟨k,q,av,cv,legs,hk1,hkS,rfl,hll,hq,H⟩:=hrel;clear H1;obtain ⟨y,y0,y1,-⟩:=id H.y.facts2
  by_cases hlt:k<S
  · go_upto_region 6 with fail
    go_cut [36] (fun v wx=>∃ b q',v=.bool b∧q'≤q+1∧SvSt w R X Y B a n c q' S av cv legs wx)
    case first =>
     cases lb with
     | true =>
       go_wp2_with fail;refine (zaao _ _ _ _ _ _ _ H.r qO qO).mono ?_;rintro e w2 ⟨k2,rfl,-,-,h,u1⟩;have H2:=H.pick h u1;clear h u1 H;go_wp2_with fail
       go_meet
       exact ⟨_,q+1,rfl,by omega,H2⟩
     | false =>
       go_wp2_with fail
       go_meet
       exact ⟨_,q,rfl,by omega,H⟩
    case rest =>
     obtain ⟨b,q',rfl,hq',H2⟩:=hcut;clear H y y0 y1;obtain ⟨y,y0,y1,-⟩:=id H2.y.facts2
     cases b with
     | false =>
       go_wp2_with fail;go_roundw
       case rel=>exact ⟨k+1,q',av,cv,legs,by omega,by omega,by go_num,by omega,by omega,H2⟩
       case measure=>simp [intOf];omega
     | true =>
       go_wp2_with fail;refine (zadv R a n c q' S 0 _ H2.r qO qO qO).mono ?_;rintro e w3 ⟨⟨gf,gt,ge,gn,gu⟩,q3,rfl,-,-,-,hgn,hgu,hg0,hq3,h,u1⟩;have H3:=H2.upto h u1;obtain ⟨hgf,hgt,hge⟩:=hg0 rfl;simp only at hgf hgt hge hgn hgu ⊢;clear h u1 H2 hg0 y y0 y1;obtain ⟨y,y0,y1,-⟩:=id H3.y.facts2;go_wp2_with fail;obtain ⟨G,hG⟩:=qN (w3.heap.size);obtain ⟨V4,hV4⟩:=qM (w3.alloc (.cells #[.int .i64 gf,.int .i64 gt,.int .i64 ge,.int .i64 gn,.int .i64 gu] 75))
       have A4:At V4 G [.int .i64 gf,.int .i64 gt,.int .i64 ge,.int .i64 gn,.int .i64 gu]:=by rw [hV4];exact At.new _ _ _ hG.symm rfl
       have hBG:B≤G:=by have:=H3.z;omega
       have hne:∀ k,(Value.slice av legs.length cv).ownBlock=some k→k≠G:=fun k hk=>by have:=H3.ne k hk;omega
       have H4:=H3.alloc (.cells #[.int .i64 gf,.int .i64 gt,.int .i64 ge,.int .i64 gn,.int .i64 gu] 75);rw [hG,← hV4];rw [← hV4] at H4;clear hV4 hG H3 y y0 y1
       have hRG:R<G:=by have:=H4.rx;have:=H4.xy;have:=H4.yb;omega
       refine (zaao _ _ _ _ _ _ _ H4.r qO qO).mono ?_;rintro e w5 ⟨k5,rfl,hk5,-,h,u1⟩;replace hk5:=hk5 qO;have H5:=H4.pick h u1;have A5:=A4.upto (u1 (G+1)) qO qO;clear h u1 H4 A4;obtain ⟨z,z0,z1,z2,z3,z4,zf⟩:=id A5.facts5;go_wp2_with fail;have H6:=(H5.store (p:=⟨G,0,none⟩) hBG hne (.int .i64 (k5:Int))).store (p:=⟨G,1,none⟩) hBG hne (.int .i64 (k:Int));have A6:=(A5.set 0 (.int .i64 (k5:Int))).set 1 (.int .i64 (k:Int));simp only [List.set_cons_succ,List.set_cons_zero] at A6;obtain ⟨W6,hW6⟩:=qM ((w5.setCell ⟨G,0,none⟩ (.int .i64 (k5:Int))).setCell ⟨G,1,none⟩ (.int .i64 (k:Int)));rw [← hW6] at H6 A6 ⊢;clear hW6 H5 A5 z z0 z1 z2 z3 z4 zf;refine (zaao _ _ _ _ _ _ _ H6.r qO qO).mono ?_;rintro e w7 ⟨k7,rfl,hk7,-,h,u1⟩;have H7:=H6.pick h u1;have A7:=A6.upto (u1 (G+1)) qO qO;clear h u1 H6 A6;obtain ⟨z,z0,z1,z2,z3,z4,zf⟩:=id A7.facts5
       go_upto_if 49 with fail
       go_cut [] (fun wx=>∃ g:Lg,At wx G [.int .i64 g.frm,.int .i64 g.to,.int .i64 g.east,.int .i64 g.north,.int .i64 g.up]∧SvSt w R X Y B a n c (q3+2) S av cv legs wx)
       case first =>
        by_cases hz7:k7=0
        · subst hz7
          have hlo:legOk 6 ⟨(k5:Int),(k:Int),ge,gn,gu⟩=true:=by
           simp only [legOk,isIdx,isIn,Bool.and_eq_true,Bool.not_eq_true',Bool.or_eq_false_iff,decide_eq_false_iff_not,decide_eq_true_eq]
           omega
          have hbk:=fun W=>zad4 ⟨(k5:Int),(k:Int),ge,gn,gu⟩ W hlo
          go_wp2_with fail;refine (hbk _).mono ?_;rintro e W8 ⟨rfl,b8⟩;have H8:=H7.below b8;have A8:=A7.below b8;clear b8 H7 A7 z z0 z1 z2 z3 z4 zf hbk;obtain ⟨z,z0,z1,z2,z3,z4,zf⟩:=id A8.facts5;simp only [legBack,Lg.val];go_wp2_with fail
          go_meet
          exact ⟨⟨_,_,_,_,_⟩,A8.sets5 _ _ _ _ _,H8.store5 hBG hne _ _ _ _ _⟩
        · have hz7':¬ (k7:Int)=0:=by omega
          go_wp2_with fail
          go_meet
          exact ⟨⟨_,_,_,_,_⟩,A7,H7⟩
       case rest =>
        obtain ⟨⟨f1,f2,f3,f4,f5⟩,A8,H8⟩:=hcut;clear H7 A7 z z0 z1 z2 z3 z4 zf;simp only at A8;obtain ⟨z,z0,z1,z2,z3,z4,zf⟩:=id A8.facts5;obtain ⟨y,y0,y1,yf⟩:=id H8.y.facts2;have hzc:=H8.z;have hll2:legs.length≤2097160:=qO
        go_wp2_with (at_builtin;refine zaaj legI _ _ rfl rfl B _ legs [⟨f1,f2,f3,f4,f5⟩] (some ⟨wc.heap.size,0,none⟩) 1 rfl (H8.alloc _).o rfl (zagw _ _ _) hll2 qP (by simp;omega) ?_;rintro av9 cv9 w9 o9 - b9 -;have b9':=((Below.refl B wc).alloc hzc _).trans b9;have c9:=(b9'.cell (p:=⟨Y,1,none⟩) H8.yb).trans y1;have f9:=(b9'.frozen (p:=⟨Y,1,none⟩) H8.yb).trans (yf 1);clear z z0 z1 z2 z3 z4 zf y y0 y1 yf)
        have HF:=H8.more b9' o9;simp only [List.length_append,List.length_cons,List.length_nil,Nat.zero_add] at HF;go_roundw
        case rel=>exact ⟨k+1,q3+2,av9,cv9,legs ++ [⟨f1,f2,f3,f4,f5⟩],by omega,by omega,by go_num,by simp;omega,by omega,HF⟩
        case measure=>simp [intOf];omega
  · obtain rfl:k=S:=by omega
    clear hkS hlt hk1;go_wp2_with fail;refine (zaao _ _ _ _ _ _ _ H.r qO qO).mono ?_;rintro e w2 ⟨k2,rfl,-,-,h,u1⟩;have H1:=H.pick h u1;clear h u1 H y y0 y1;go_wp2_with fail;obtain ⟨cl,hcl⟩:∃ cl:Bool,((k2:Int) == 0)=cl:=⟨_,rfl⟩;rw [hcl];clear hcl;refine (zaao _ _ _ _ _ _ _ H1.r qO qO).mono ?_;rintro e w2 ⟨k3,rfl,hk3,-,h,u1⟩;replace hk3:=hk3 qO;have H2:=H1.pick h u1;clear h u1 H1;go_wp2_with fail
    go_loopw [10] (fun i wr=>∃ (m q:Nat) (av:Option Addr) (cv:Nat) (legs:List Lg),m≤4∧i=.int .i64 m∧legs.length≤9∧q≤p+200+20*(5 - m)∧SvSt w R X Y B a n c q k av cv legs wr) (fun i _=>(intOf i).toNat)
    case atStart=>exact ⟨k3,q+2,av,cv,legs,by omega,rfl,by omega,by omega,H2⟩
    case round =>
     clear hq hll H2;obtain ⟨m,q,av,cv,legs,hm,rfl,hll,hq,H⟩:=hrel;obtain ⟨y,y0,y1,-⟩:=id H.y.facts2
     by_cases hgo:0<m∧legs.length<9
     · obtain ⟨hm0,hl9⟩:=hgo
       go_wp2_with fail;refine (zadv R a n c q k 0 _ H.r qO qO qO).mono ?_;rintro e w3 ⟨⟨gf,gt,ge,gn,gu⟩,q3,rfl,-,-,-,hgn,hgu,hg0,hq3,h,u1⟩;have H3:=H.upto h u1;obtain ⟨hgf,hgt,hge⟩:=hg0 rfl;simp only at hgf hgt hge hgn hgu ⊢;clear h u1 H hg0 y y0 y1;obtain ⟨y,y0,y1,-⟩:=id H3.y.facts2;go_upto_region 18 with fail;obtain ⟨G,hG⟩:=qN (w3.heap.size);obtain ⟨V4,hV4⟩:=qM (w3.alloc (.cells #[.int .i64 gf,.int .i64 gt,.int .i64 ge,.int .i64 gn,.int .i64 gu] 75))
       have A4:At V4 G [.int .i64 gf,.int .i64 gt,.int .i64 ge,.int .i64 gn,.int .i64 gu]:=by rw [hV4];exact At.new _ _ _ hG.symm rfl
       have hBG:B≤G:=by have:=H3.z;omega
       have hne:∀ k,(Value.slice av legs.length cv).ownBlock=some k→k≠G:=fun k hk=>by have:=H3.ne k hk;omega
       have H4:=H3.alloc (.cells #[.int .i64 gf,.int .i64 gt,.int .i64 ge,.int .i64 gn,.int .i64 gu] 75);rw [hG,← hV4];rw [← hV4] at H4;clear hV4 hG H3 y y0 y1
       have hRG:R<G:=by have:=H4.rx;have:=H4.xy;have:=H4.yb;omega
       obtain ⟨y,y0,y1,-⟩:=id H4.y.facts2;obtain ⟨z,z0,z1,-,-,-,-⟩:=id A4.facts5;have hl2:legs.length≤1048576:=qO;have hk4:=H4.o.kr;go_wp2_with fail;refine (zaea av cv k legs gf V4 hl2 hk4).mono ?_;rintro e w5 ⟨x1,x2,x3,b1,rfl,hx1,hx2,hx3,-,-,b5⟩;have H5:=H4.below b5;have A5:=A4.below b5;clear H4 A4 b5 hk4 y y0 y1 z z0 z1;go_upto_region 19 with fail;obtain ⟨G2,hG2⟩:=qN (w5.heap.size);obtain ⟨V6,hV6⟩:=qM (w5.alloc (.cells #[.int .i64 x1,.int .i64 x2,.int .i64 x3] 109))
       have C6:At V6 G2 [.int .i64 x1,.int .i64 x2,.int .i64 x3]:=by rw [hV6];exact At.new _ _ _ hG2.symm rfl
       have H6:=H5.alloc (.cells #[.int .i64 x1,.int .i64 x2,.int .i64 x3] 109);have A6:=A5.below ((Below.refl _ _).alloc (Nat.le_refl _) (.cells #[.int .i64 x1,.int .i64 x2,.int .i64 x3] 109))
       have hGG:G<G2:=by have:=A5.lt;omega
       rw [hG2,← hV6];rw [← hV6] at H6 A6;clear hV6 hG2 H5 A5;obtain ⟨y,y0,y1,-⟩:=id H6.y.facts2;obtain ⟨z,z0,z1,-,-,-,-⟩:=id A6.facts5;have hk6:=H6.o.kr;go_wp2_with fail;refine (zaea av cv k legs gt V6 hl2 hk6).mono ?_;rintro e w7 ⟨y1',y2',y3',b2,rfl,hy1',hy2',hy3',-,-,b7⟩;have H7:=H6.below b7;have A7:=A6.below b7;have C7:=C6.below b7;clear H6 A6 C6 b7 hk6 y y0 y1 z z0 z1;go_upto_region 20 with fail;obtain ⟨G3,hG3⟩:=qN (w7.heap.size);obtain ⟨V8,hV8⟩:=qM (w7.alloc (.cells #[.int .i64 y1',.int .i64 y2',.int .i64 y3'] 109))
       have D8:At V8 G3 [.int .i64 y1',.int .i64 y2',.int .i64 y3']:=by rw [hV8];exact At.new _ _ _ hG3.symm rfl
       have H8:=H7.alloc (.cells #[.int .i64 y1',.int .i64 y2',.int .i64 y3'] 109);have A8:=A7.below ((Below.refl _ _).alloc (Nat.le_refl _) (.cells #[.int .i64 y1',.int .i64 y2',.int .i64 y3'] 109));have C8:=C7.below ((Below.refl _ _).alloc (Nat.le_refl _) (.cells #[.int .i64 y1',.int .i64 y2',.int .i64 y3'] 109));rw [hG3,← hV8];rw [← hV8] at H8 A8 C8;clear hV8 hG3 H7 A7 C7;obtain ⟨z,z0,z1,z2,-⟩:=id C8.facts3;obtain ⟨r,r0,r1,r2,-⟩:=id D8.facts3
       have i2:=fun W=>zaf8 x1 x2 x3 W qO qO qO
       have i3:=fun W=>zadf y1' y2' y3' (-x1) (-x2) (-x3) W qO qO qO qO qO qO
       go_cut [16] (Boxed V8 [.int .i64 (y1' + -x1),.int .i64 (y2' + -x2),.int .i64 (y3' + -x3)])
       case first =>
        go_region_held3 (fun w'=>Below V8.heap.size V8 w'∧∀ b o,b<V8.heap.size→w'.cell? ⟨b,o,none⟩=V8.cell? ⟨b,o,none⟩) (exact kept qHb)
         (first
         | (go_at_call 129;refine (i2 _).mono ?_;rintro e w5 ⟨rfl,c5⟩;have B5:=zaae (V:=V8) qHb c5;have z5:=B5.size;(first|have A0:=A0.below c5|have A0:=A0.drew.below c5|have A0:=At.born c5|have A0:=At.bornD c5|skip);(first|obtain ⟨i50,i51,i52,i53,i54⟩:=A0.facts3|skip);clear c5)
         | (go_at_call 128;refine (i3 _).mono ?_;rintro e w6 ⟨rfl,c6⟩;have B6:=zaae (V:=V8) qHb c6;have z6:=B6.size;(first|have A0:=A0.below c6|have A0:=A0.drew.below c6|have A0:=At.born c6|have A0:=At.bornD c6|skip);(first|obtain ⟨i60,i61,i62,i63,i64⟩:=A0.facts3|skip);clear c6))
        all_goals (go_wp2_with fail;go_meet)
        all_goals first
         | exact ⟨_,rfl,by first|omega|(simp;omega),A0.sets3 _ _ _,qHb⟩
         | exact ⟨_,rfl,by first|omega|(simp;omega),At.new _ _ _ rfl rfl,qHb⟩
         | exact ⟨_,rfl,by first|omega|(simp;omega),(At.new _ _ _ rfl rfl).drew,qHb⟩
       case rest =>
        obtain ⟨G4,rfl,hG4,E9,b9⟩:=hcut;have H9:=H8.below b9;have A9:=A8.below b9;clear H8 A8 C8 D8 b9 i2 i3 z z0 z1 z2 r r0 r1 r2;obtain ⟨z,z0,z1,z2,zf⟩:=id E9.facts3;go_upto_region 21 with fail
        go_cut [111] (fun v wx=>∃ b,v=.bool b∧wx=wc)
        case first =>
         cases cl
         · go_wp2_with fail
           go_meet
           exact ⟨_,rfl,rfl⟩
         cases b1
         · go_wp2_with fail
           go_meet
           exact ⟨_,rfl,rfl⟩
         cases b2
         · go_wp2_with fail
           go_meet
           exact ⟨_,rfl,rfl⟩
         cases hi:inB (y1' + -x1) (-99) 99
         · go_wp2_with (first|(go_at_call 85;refine (zaac _ _ _ _).mono ?_;rintro e W ⟨rfl,rfl⟩;rw [hi]))
           go_meet
           exact ⟨_,rfl,rfl⟩
         · cases hi2:inB (y2' + -x2) (-99) 99
           · go_wp2_with (first|(go_at_call 85;refine (zaac _ _ _ _).mono ?_;rintro e W ⟨rfl,rfl⟩;(first|rw [hi]|rw [hi2])))
             go_meet
             exact ⟨_,rfl,rfl⟩
           · go_wp2_with (first|(go_at_call 85;refine (zaac _ _ _ _).mono ?_;rintro e W ⟨rfl,rfl⟩;(first|rw [hi]|rw [hi2])))
             go_meet
             exact ⟨_,rfl,rfl⟩
        case rest =>
         obtain ⟨b,rfl,rfl⟩:=hcut;clear z z0 z1 z2 zf;obtain ⟨z,z0,z1,z2,zf⟩:=id E9.facts3;obtain ⟨r,r0,r1,r2,r3,r4,rf⟩:=id A9.facts5
         go_upto_if 111 with fail
         go_cut [] (fun wx=>∃ g:Lg,At wx G [.int .i64 g.frm,.int .i64 g.to,.int .i64 g.east,.int .i64 g.north,.int .i64 g.up]∧SvSt w R X Y B a n c q3 k av cv legs wx)
         case first =>
          cases b with
          | true =>
            go_wp2_with fail
            go_meet
            exact ⟨⟨gf,gt,y1' + -x1,y2' + -x2,y3' + -x3⟩,A9.sets5 _ _ _ _ _,H9.store5 hBG hne _ _ _ _ _⟩
          | false =>
            go_wp2_with fail
            go_meet
            exact ⟨⟨gf,gt,ge,gn,gu⟩,A9,H9⟩
         case rest =>
          obtain ⟨g,A10,H10⟩:=hcut;clear E9 H9 A9 z z0 z1 z2 zf r r0 r1 r2 r3 r4 rf;obtain ⟨f1,f2,f3,f4,f5⟩:=g;simp only at A10;obtain ⟨z,z0,z1,z2,z3,z4,zf⟩:=id A10.facts5;obtain ⟨y,y0,y1,-⟩:=id H10.y.facts2
          have i5:=fun W=>zabn k ⟨f1,f2,f3,f4,f5⟩ W
          simp only [Lg.val] at i5;go_wp2_with fail;refine (i5 _).mono ?_;rintro e W ⟨rfl,bW⟩;have H11:=H10.below bW;have A11:=A10.below bW;clear H10 A10 bW i5 z z0 z1 z2 z3 z4 zf y y0 y1
          cases hv:legOk k ⟨f1,f2,f3,f4,f5⟩ with
          | false =>
            go_wp2_with fail;go_roundw
            case rel=>exact ⟨m - 1,q3,av,cv,legs,by omega,by go_num,by omega,by omega,H11⟩
            case measure=>simp [intOf];omega
          | true =>
            clear hv;obtain ⟨z,z0,z1,z2,z3,z4,zf⟩:=id A11.facts5;obtain ⟨y,y0,y1,yf⟩:=id H11.y.facts2;have hzc:=H11.z;have hll2:legs.length≤2097160:=qO
            go_wp2_with (at_builtin;refine zaaj legI _ _ rfl rfl B _ legs [⟨f1,f2,f3,f4,f5⟩] (some ⟨W.heap.size,0,none⟩) 1 rfl (H11.alloc _).o rfl (zagw _ _ _) hll2 qP (by simp;omega) ?_;rintro av9 cv9 w9 o9 - b9 -;have b9':=((Below.refl B W).alloc hzc _).trans b9;have c9:=(b9'.cell (p:=⟨Y,1,none⟩) H11.yb).trans y1;have f9:=(b9'.frozen (p:=⟨Y,1,none⟩) H11.yb).trans (yf 1);clear z z0 z1 z2 z3 z4 zf y y0 y1 yf)
            have HF:=H11.more b9' o9;simp only [List.length_append,List.length_cons,List.length_nil,Nat.zero_add] at HF;go_roundw
            case rel=>exact ⟨m - 1,q3,av9,cv9,legs ++ [⟨f1,f2,f3,f4,f5⟩],by omega,by go_num,by simp;omega,by omega,HF⟩
            case measure=>simp [intOf];omega
     · go_upto_region 15 with fail
       go_cut [70] (fun v wx=>v=.bool false∧wx=wr)
       case first =>
        by_cases hm0:0<m
        · have hl9:¬ legs.length<9:=fun h=>hgo ⟨hm0,h⟩
          have hl9':¬ (legs.length:Int)<9:=qO;go_wp2_with fail
          go_meet
          exact ⟨by first|rfl|(simp;omega),rfl⟩
        · obtain rfl:m=0:=by omega
          go_wp2_with fail
          go_meet
          exact ⟨rfl,rfl⟩
       case rest =>
        obtain ⟨rfl,rfl⟩:=hcut;clear hgo hm y y0 y1
        by_cases hN0:N=0
        · subst hN0
          go_wp2_with fail;refine (zajg _ _).mono ?_;rintro e W ⟨rfl,rfl⟩;obtain ⟨y,y0,y1,-⟩:=id H.y.facts2;obtain ⟨r,r0,r1,rf⟩:=id H.x.facts2;have FIN:=Lib.hid (H.done (p:=p) hX qO qO qO);go_wp2_with fail
          exact bodyPost_ret (v:=.agg #[.int .i64 k,.slice av legs.length cv]) (by simp [results,Tryz.results78,go_sem,r,r0,r1]) rfl FIN.out
        · have hNp:0<N:=by omega
          go_wp2_with fail;refine (zaka _ _ _ _ _ _ _ H.r qO hNp qO).mono ?_;rintro e W ⟨ob,rfl,h,u1⟩;have H1:=H.pick h u1;clear h u1 H
          cases ob with
          | false =>
            obtain ⟨y,y0,y1,-⟩:=id H1.y.facts2;obtain ⟨r,r0,r1,rf⟩:=id H1.x.facts2;have FIN:=Lib.hid (H1.done (p:=p) hX qO qO qO);go_wp2_with fail
            exact bodyPost_ret (v:=.agg #[.int .i64 k,.slice av legs.length cv]) (by simp [results,Tryz.results78,go_sem,r,r0,r1]) rfl FIN.out
          | true =>
            go_wp2_with fail;refine (zaao _ _ _ _ _ _ _ H1.r qO qO).mono ?_;rintro e W2 ⟨k6,rfl,hk6,-,h,u1⟩;have H2:=H1.pick h u1;clear h u1 H1;replace hk6:=hk6 qO;have hk:k6=0∨k6=1∨k6=2:=qO;obtain ⟨y,y0,y1,yf⟩:=id H2.y.facts2;obtain ⟨r,r0,r1,rf⟩:=id H2.x.facts2;have hBz:=H2.z
            rcases hk with rfl|rfl|rfl
            · go_wp2_with fail
              obtain ⟨L,hL⟩:=qN (W2.heap.size);obtain ⟨V3,hV3⟩:=qM (W2.alloc (.cells #[.int .i64 0,.int .i64 7] 3))
              have Q3:At V3 L [.int .i64 0,.int .i64 7]:=by rw [hV3];exact At.new _ _ _ hL.symm rfl
              have H3:=H2.alloc (.cells #[.int .i64 0,.int .i64 7] 3);rw [hL,← hV3];rw [← hV3] at H3
              have hLR:R<L:=by have:=H2.rx;have:=H2.xy;have:=H2.yb;omega
              clear hV3 hL H2 y y0 y1 yf r r0 r1 rf;refine (zaao _ _ _ _ _ _ _ H3.r qO qO).mono ?_;rintro e W4 ⟨k7,rfl,hk7,-,h,u1⟩;have H4:=H3.pick h u1;have Q4:=Q3.upto (u1 (L+1)) qO qO;clear h u1 H3 Q3;replace hk7:=hk7 qO;have h7:k7=0∨k7=1:=qO;obtain ⟨z,z0,z1,-⟩:=id Q4.facts2;obtain ⟨y,y0,y1,yf⟩:=id H4.y.facts2;obtain ⟨r,r0,r1,rf⟩:=id H4.x.facts2
              rcases h7 with rfl|rfl
              · have FIN:=Lib.hid ((H4.sta 0).done (p:=p) hX qO qO qO)
                go_wp2_with fail
                exact bodyPost_ret (v:=.agg #[.int .i64 0,.slice av legs.length cv]) (by simp [results,Tryz.results78,go_sem,r,r0,r1]) rfl FIN.out
              · have FIN:=Lib.hid ((H4.sta 7).done (p:=p) hX qO qO qO)
                go_wp2_with fail
                exact bodyPost_ret (v:=.agg #[.int .i64 7,.slice av legs.length cv]) (by simp [results,Tryz.results78,go_sem,r,r0,r1]) rfl FIN.out
            · have hl2:legs.length≤2097160:=by omega
              have hY2:=id H2.y;clear y y0 y1 yf r r0 r1 rf;go_upto_region 31 with fail;obtain ⟨y,y0,y1,yf⟩:=id hY2.facts2
              go_region_law (first
               | (go_simp;go_at_call 125;refine (zadv R a n c _ k 1 _ (H2.below qBl).r qO qO qO).mono ?_;rintro e w3 ⟨⟨gf,gt,ge,gn,gu⟩,q3,rfl,-,-,-,-,-,-,hq3,h3,u3⟩;have H3:=(H2.below qBl).upto h3 u3;have Y3:=id H3.y;have z3:=H3.z;obtain ⟨yy,yy0,yy1,yyf⟩:=id Y3.facts2;clear h3 u3)
               | (refine zaen legI (.tmp 151) (.tmp 156) (by rfl) (by rfl) B _ legs [⟨gf,gt,ge,gn,gu⟩] _ 1 (by rfl) (H3.below qBl).o (by rfl) (by first|exact zagw _ _ _|exact (zagw _ _ _).drew) hl2 qP qSo ?_;rintro av9 cv9 w9 o9 - b9 -;have b39:Below B w3 w9:=Below.trans qBl b9;have Y9:=Y3.belowB b39 H3.yb;obtain ⟨zz,zz0,zz1,zzf⟩:=id Y9.facts2)
               | fail)
              all_goals
               have H4:=H3.more b39 o9;obtain ⟨l9,hl9⟩:=qM (legs ++ [⟨gf,gt,ge,gn,gu⟩])
               have hl9l:l9.length=legs.length+1:=by rw [hl9];simp
               rw [← hl9] at H4;clear y y0 y1 yf;obtain ⟨y,y0,y1,yf⟩:=id H4.y.facts2;obtain ⟨r,r0,r1,rf⟩:=id H4.x.facts2;have FIN:=Lib.hid (H4.done (p:=p) hX qO qO qO);rw [hl9l] at y1 r r0 r1 rf FIN;clear hl9l;go_wp2_with fail
               exact bodyPost_ret (v:=.agg #[.int .i64 k,.slice av9 (legs.length+1) cv9]) (by simp [results,Tryz.results78,go_sem,r,r0,r1]) rfl FIN.out
            · have mk:=zawb W2
              have o3:=zawc W2 B hBz;obtain ⟨W3,hW3⟩:=qM (W2.alloc (.cells (madeCells #[.int .i64 0,.int .i64 0,.int .i64 0,.int .i64 0,.int .i64 0] 50) 75))
              have b3:Below B W2 W3:=by rw [hW3];exact (Below.refl B W2).alloc hBz _
              have H2a:=H2.alloc (.cells (madeCells #[.int .i64 0,.int .i64 0,.int .i64 0,.int .i64 0,.int .i64 0] 50) 75);rw [← hW3] at mk o3 H2a;clear hW3;have o3':OwnL W3 B (.slice (some ⟨W2.heap.size,0,none⟩) 10 10) (List.replicate 10 noLeg):=o3;have H3:=H2.more (legs':=List.replicate 10 noLeg) (av':=some ⟨W2.heap.size,0,none⟩) (cv':=10) b3 o3;have FIN:=Lib.hid (H3.done (p:=p) hX qP qO qO);clear o3 o3' H3 H2 y y0 y1 yf r r0 r1 rf b3;obtain ⟨y,y0,y1,yf⟩:=id H2a.y.facts2;obtain ⟨r,r0,r1,rf⟩:=id H2a.x.facts2;go_wp2_with fail;refine bodyPost_ret (v:=.agg #[.int .i64 k,.slice (some ⟨W2.heap.size,0,none⟩) 10 10]) (by simp [results,Tryz.results78,go_sem,r,r0,r1]) rfl ?_
              exact FIN.out
theorem zaox {w w1 w2:World} {R K:Nat} (b:Below w.heap.size w w1) (hR:w.heap.size≤R) (hK:w.heap.size≤K) (u:Upto K R w1 w2):Below w.heap.size w w2:=b.trans ((u.mono hK).below hR)
end Go.Proofs.YthfoloefkfadlaaGreatDoor
