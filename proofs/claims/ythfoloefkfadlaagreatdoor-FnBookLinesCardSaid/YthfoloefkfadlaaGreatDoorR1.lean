/- Walks of draws: spec.l20Leg. -/
import Derived.Test.YthfoloefkfadlaaGreatDoorK3
import Derived.Test.YthfoloefkfadlaaGreatDoorF3
import Derived.Deep.RegionHeld3
import Derived.Deep.DeepCutAuto
set_option linter.unusedSimpArgs false
set_option linter.unusedVariables false
set_option maxHeartbeats 4000000
set_option maxRecDepth 100000
namespace Go.Proofs.YthfoloefkfadlaaGreatDoor
open Go Go.RowKit Go.Sort
theorem zajg (R:Nat) (w:World):Calls Tryz.prog 38 #[.pointer (some ⟨R,0,none⟩),.int .i64 0] w fun e w'=>e=.returned (.bool false)∧w=w':=by
 go_enter Tryz.func38,Tryz.ntmps38
 go_wp2_with fail;go_ret
 exact ⟨rfl,rfl⟩
theorem zad9 {W w:World} {R X:Nat} {a:Option Addr} {n c q:Nat} (h:Rdr W R a n c q) (u:Upto X R w W) (hRX:R<X) (hcode:∀ b off,0<n→a=some ⟨b,off,none⟩→b<X) (v0 v1 v2 v3 v4:Value) :
 Rdr (((((W.setCell ⟨X,0,none⟩ v0).setCell ⟨X,1,none⟩ v1).setCell ⟨X,2,none⟩ v2).setCell ⟨X,3,none⟩ v3).setCell ⟨X,4,none⟩ v4) R a n c q∧Upto X R w (((((W.setCell ⟨X,0,none⟩ v0).setCell ⟨X,1,none⟩ v1).setCell ⟨X,2,none⟩ v2).setCell ⟨X,3,none⟩ v3).setCell ⟨X,4,none⟩ v4):=by
 have hb:=zaa1 (Below.refl X W) (Nat.le_refl X) v0 v1 v2 v3 v4
 exact ⟨Rdr.keep h hRX (fun b off h0 e=>hcode b off h0 e) hb,u.trans (Upto.of hb)⟩
def DrawnLeg (stn:Int) (N:Nat) (R:Nat) (a:Option Addr) (n c p:Nat) (w:World) (e:Ending) (w':World):Prop :=
 ∃ (g:Lg) (q:Nat),e=.returned (.agg #[.int .i64 g.frm,.int .i64 g.to,.int .i64 g.east,.int .i64 g.north,.int .i64 g.up])∧(-1≤g.frm∧g.frm≤7)∧(0≤g.to∧g.to≤7)∧(-100≤g.east∧g.east≤100)∧(-12≤g.north∧g.north≤12)∧(-5≤g.up∧g.up≤5)∧(N=0→(0≤g.frm∧g.frm<stn)∧(0≤g.to∧g.to<stn)∧(-12≤g.east∧g.east≤12))∧q≤p+10∧Rdr w' R a n c q∧Upto w.heap.size R w w'
theorem zadv (R:Nat) (a:Option Addr) (n c p S N:Nat) (w:World) (h:Rdr w R a n c p) (hp:p≤100000) (hS:2≤S∧S≤7) (hN:N≤100) :
 Calls Tryz.prog 125 #[.pointer (some ⟨R,0,none⟩),.int .i64 (S:Int),.int .i64 (N:Int)] w (DrawnLeg S N R a n c p w):=by
 have hmx:max (S:Int) 1=S:=qO
 go_enter Tryz.func125,Tryz.ntmps125
 go_wp2_with fail;obtain ⟨X,hX⟩:=qN (w.heap.size);obtain ⟨W0,hW0⟩:=qM (w.alloc (.cells #[.int .i64 0,.int .i64 0,.int .i64 0,.int .i64 0,.int .i64 0] 75))
 have F:At W0 X [.int .i64 0,.int .i64 0,.int .i64 0,.int .i64 0,.int .i64 0]:=by rw [hW0];exact At.new _ _ _ hX.symm rfl
 have b0:Below w.heap.size w W0:=by rw [hW0];exact qBl
 rw [hX,← hW0]
 have hRX:R<X:=by have:=h.lt;omega
 have hcode:∀ b off,0<n→a=some ⟨b,off,none⟩→b<X:=fun b off h0 e=>by
  obtain ⟨b',off',e',hlt,_⟩:=h.bytes h0;rw [e] at e'
  cases e'
  omega
 have u:Upto X R w W0:=by rw [← hX];exact Upto.of b0
 replace h:=h.below b0;clear b0 hW0;go_wp2_with fail;refine (zaao _ _ _ _ _ _ _ h qO qO).mono ?_;rintro e w1 ⟨k1,rfl,hk1,-,h,u1⟩;replace F:=F.upto (u1 (X+1)) qO qO;replace u:=u.trans (u1 _);clear u1;replace hk1:=hk1 qO;go_wp2_with fail;refine (zaao _ _ _ _ _ _ _ h qO qO).mono ?_;rintro e w1 ⟨k2,rfl,hk2,-,h,u1⟩;replace F:=F.upto (u1 (X+1)) qO qO;replace u:=u.trans (u1 _);clear u1;replace hk2:=hk2 qO;go_wp2_with fail;refine (zaao _ _ _ _ _ _ _ h qO qO).mono ?_;rintro e w1 ⟨k3,rfl,hk3,-,h,u1⟩;replace F:=F.upto (u1 (X+1)) qO qO;replace u:=u.trans (u1 _);clear u1;replace hk3:=hk3 qO;go_wp2_with fail;refine (zaao _ _ _ _ _ _ _ h qO qO).mono ?_;rintro e w1 ⟨k4,rfl,hk4,-,h,u1⟩;replace F:=F.upto (u1 (X+1)) qO qO;replace u:=u.trans (u1 _);clear u1;replace hk4:=hk4 qO;go_wp2_with fail;obtain ⟨Y,hY⟩:=qN (w1.heap.size);obtain ⟨V,hV⟩:=qM (w1.alloc (.cells #[.int .i64 (k1:Int),.int .i64 0,.int .i64 ((k2:Int) - 12),.int .i64 ((k3:Int) - 12),.int .i64 ((k4:Int) - 5)] 75))
 have G:At V Y [.int .i64 (k1:Int),.int .i64 0,.int .i64 ((k2:Int) - 12),.int .i64 ((k3:Int) - 12),.int .i64 ((k4:Int) - 5)]:=by rw [hV];exact At.new _ _ _ hY.symm rfl
 have bV:Below w1.heap.size w1 V:=by rw [hV];exact qBl
 rw [hY,← hV]
 have hXY:X<Y:=by have:=F.lt;omega
 replace h:=h.below bV;replace F:=F.below bV;replace u:=u.trans (Upto.grown (R:=R) bV qO);clear bV hV hY;refine (zaao _ _ _ _ _ _ _ h qO qO).mono ?_;rintro e w2 ⟨k5,rfl,hk5,-,h,u1⟩;replace F:=F.upto (u1 (Y+1)) qO qO;replace G:=G.upto (u1 (Y+1)) qO qO;replace u:=u.trans (u1 _);clear u1;replace hk5:=hk5 qO;obtain ⟨z,z0,z1,z2,z3,z4,zf⟩:=id G.facts5;have z1b:(w2.setCell ⟨Y,1,none⟩ (.int .i64 (k5:Int))).cell? ⟨Y,1,none⟩=some (.int .i64 (k5:Int)):=World.cell?_setCell_same _ _ _ z1
 go_upto_if 31 with fail
 have G1:=G.set 1 (.int .i64 (k5:Int));have F1:=F.setOther (p:=⟨Y,1,none⟩) (by show X≠Y;omega) (.int .i64 (k5:Int))
 have h1:=Rdr.keep (B:=Y) h qO (fun b off h0 e=>by have:=hcode b off h0 e;omega) ((Below.refl Y w2).setCell (p:=⟨Y,1,none⟩) (Nat.le_refl _) (.int .i64 (k5:Int)))
 have u1:Upto X R w (w2.setCell ⟨Y,1,none⟩ (.int .i64 (k5:Int))):=u.trans (Upto.of ((Below.refl X w2).setCell (p:=⟨Y,1,none⟩) (by show X≤Y;omega) (.int .i64 (k5:Int))));simp only [List.set_cons_succ,List.set_cons_zero] at G1;clear z z0 z1 z2 z3 z4 zf z1b G F h u;obtain ⟨W3,hW3⟩:=qM (w2.setCell ⟨Y,1,none⟩ (.int .i64 (k5:Int)));rw [← hW3] at G1 F1 h1 u1 ⊢;clear hW3;obtain ⟨z,z0,z1,z2,z3,z4,zf⟩:=id G1.facts5
 go_cut [] (fun wx=>∃ t:Int,0≤t∧t<S∧At wx X [.int .i64 0,.int .i64 0,.int .i64 0,.int .i64 0,.int .i64 0]∧At wx Y [.int .i64 (k1:Int),.int .i64 t,.int .i64 ((k2:Int) - 12),.int .i64 ((k3:Int) - 12),.int .i64 ((k4:Int) - 5)]∧Rdr wx R a n c (p+5)∧Upto X R w wx)
 case first =>
  by_cases hk:k5=k1
  · subst hk
    go_wp2_with fail
    go_meet
    have hm0:0≤((k5:Int)+1) % (S:Int):=Int.emod_nonneg _ qO;have hm1:((k5:Int)+1) % (S:Int)<S:=Int.emod_lt_of_pos _ qO
    exact ⟨_,hm0,hm1,F1.setOther (by show X≠Y;omega) _,G1.set 1 _,Rdr.keep (B:=Y) h1 qO (fun b off h0 e=>by have:=hcode b off h0 e;omega) ((Below.refl Y W3).setCell (p:=⟨Y,1,none⟩) (Nat.le_refl _) _),u1.trans (Upto.of ((Below.refl X W3).setCell (p:=⟨Y,1,none⟩) (by show X≤Y;omega) _))⟩
  · have hki:¬ (k5:Int)=k1:=by omega
    go_wp2_with fail
    go_meet
    exact ⟨(k5:Int),by omega,by omega,F1,G1,h1,u1⟩
 case rest =>
  obtain ⟨t,ht0,ht1,F,G,h,u⟩:=hcut;clear F1 G1 h1 u1 z z0 z1 z2 z3 z4 zf;have hzY:Y<wc.heap.size:=G.lt
  by_cases hN0:N=0
  · subst hN0
    go_wp2_with fail;refine (zajg _ _).mono ?_;rintro e W ⟨rfl,rfl⟩;obtain ⟨r,r0,r1,r2,r3,r4,rf⟩:=id F.facts5;obtain ⟨z,z0,z1,z2,z3,z4,zf⟩:=id G.facts5;have fin:=zad9 h u hRX hcode;go_wp2_with fail;refine bodyPost_ret (v:=.agg #[.int .i64 (k1),.int .i64 (t),.int .i64 ((k2:Int) - 12),.int .i64 ((k3:Int) - 12),.int .i64 ((k4:Int) - 5)]) (by simp [results,Tryz.results125,go_sem,r,r0,r1,r2,r3,r4]) rfl ?_
    exact ⟨⟨k1,t,(k2:Int) - 12,(k3:Int) - 12,(k4:Int) - 5⟩,_,rfl,by simp only;omega,by simp only;omega,by simp only;omega,by simp only;omega,by simp only;omega,fun _=>by simp only;omega,by omega,(fin _ _ _ _ _).1,by rw [hX];exact (fin _ _ _ _ _).2⟩
  have hb0:N=0→False:=hN0;go_wp2_with fail;refine (zaka _ _ _ _ _ _ _ h qO qO qO).mono ?_;rintro e W ⟨ob,rfl,h,u1⟩;replace F:=F.upto (u1 (Y+1)) qO qO;replace G:=G.upto (u1 (Y+1)) qO qO;replace u:=u.trans (u1 _);clear u1
  cases ob with
  | false =>
    obtain ⟨r,r0,r1,r2,r3,r4,rf⟩:=id F.facts5;obtain ⟨z,z0,z1,z2,z3,z4,zf⟩:=id G.facts5;have fin:=zad9 h u hRX hcode;go_wp2_with fail;refine bodyPost_ret (v:=.agg #[.int .i64 (k1),.int .i64 (t),.int .i64 ((k2:Int) - 12),.int .i64 ((k3:Int) - 12),.int .i64 ((k4:Int) - 5)]) (by simp [results,Tryz.results125,go_sem,r,r0,r1,r2,r3,r4]) rfl ?_
    exact ⟨⟨k1,t,(k2:Int) - 12,(k3:Int) - 12,(k4:Int) - 5⟩,_,rfl,by simp only;omega,by simp only;omega,by simp only;omega,by simp only;omega,by simp only;omega,fun h=>absurd h hN0,by omega,(fin _ _ _ _ _).1,by rw [hX];exact (fin _ _ _ _ _).2⟩
  | true =>
    go_wp2_with fail;refine (zaao _ _ _ _ _ _ _ h qO qO).mono ?_;rintro e W ⟨k6,rfl,hk6,-,h,u1⟩;replace F:=F.upto (u1 (Y+1)) qO qO;replace G:=G.upto (u1 (Y+1)) qO qO;replace u:=u.trans (u1 _);clear u1;replace hk6:=hk6 qO;obtain ⟨z,z0,z1,z2,z3,z4,zf⟩:=id G.facts5;have hk:k6=0∨k6=1∨k6=2:=qO;have hWY:Y<W.heap.size:=z
    have key:∀ (W:World) (o:Nat) (v:Value),Rdr W R a n c (p+7)→Rdr (W.setCell ⟨Y,o,none⟩ v) R a n c (p+7):=fun W o v h=>Rdr.keep (B:=Y) h qO (fun b off h0 e=>by have:=hcode b off h0 e;omega) ((Below.refl Y W).setCell (p:=⟨Y,o,none⟩) (Nat.le_refl _) v)
    have key8:∀ (W:World) (o:Nat) (v:Value),Rdr W R a n c (p+8)→Rdr (W.setCell ⟨Y,o,none⟩ v) R a n c (p+8):=fun W o v h=>Rdr.keep (B:=Y) h qO (fun b off h0 e=>by have:=hcode b off h0 e;omega) ((Below.refl Y W).setCell (p:=⟨Y,o,none⟩) (Nat.le_refl _) v)
    have keyu:∀ (W:World) (o:Nat) (v:Value),Upto X R w W→Upto X R w (W.setCell ⟨Y,o,none⟩ v):=fun W o v h=>h.trans (Upto.of ((Below.refl X W).setCell (p:=⟨Y,o,none⟩) (by show X≤Y;omega) v))
    have KEY:=Lib.hid key;have KEY8:=Lib.hid key8;have KEYU:=Lib.hid keyu;clear key key8 keyu
    rcases hk with rfl|rfl|rfl
    · have fin:=zad9 (KEY.out _ 1 (.int .i64 (k1:Int)) h) (KEYU.out _ 1 (.int .i64 (k1:Int)) u) hRX hcode
      obtain ⟨r,r0,r1,r2,r3,r4,rf⟩:=id F.facts5;have FIN:=Lib.hid fin;clear fin;go_wp2_with fail;refine bodyPost_ret (v:=.agg #[.int .i64 k1,.int .i64 k1,.int .i64 ((k2:Int) - 12),.int .i64 ((k3:Int) - 12),.int .i64 ((k4:Int) - 5)]) (by simp [results,Tryz.results125,go_sem,r,r0,r1,r2,r3,r4]) rfl ?_
      exact ⟨⟨k1,k1,(k2:Int) - 12,(k3:Int) - 12,(k4:Int) - 5⟩,_,rfl,by simp only;omega,by simp only;omega,by simp only;omega,by simp only;omega,by simp only;omega,fun h=>absurd h hN0,by omega,(FIN.out _ _ _ _ _).1,by rw [hX];exact (FIN.out _ _ _ _ _).2⟩
    · skip
      go_wp2_with fail;obtain ⟨L,hL⟩:=qN (W.heap.size);obtain ⟨V,hV⟩:=qM (W.alloc (.cells #[.int .i64 (-1),.int .i64 ((S:Int))] 3))
      have Q:At V L [.int .i64 (-1),.int .i64 ((S:Int))]:=by rw [hV];exact At.new _ _ _ hL.symm rfl
      have bV:Below W.heap.size W V:=by rw [hV];exact qBl
      rw [hL,← hV];replace h:=h.below bV;replace F:=F.below bV;replace G:=G.below bV;replace u:=u.trans (Upto.grown (R:=R) bV (by have:=F.lt;omega));have hLR:L≠R:=qO;clear bV hV z z0 z1 z2 z3 z4 zf;refine (zaao _ _ _ _ _ _ _ h qO qO).mono ?_;rintro e W8 ⟨k7,rfl,hk7,-,h,u1⟩;replace Q:=Q.upto (u1 (L+1)) qO qO;replace F:=F.upto (u1 (L+1)) qO qO;replace G:=G.upto (u1 (L+1)) qO qO;replace u:=u.trans (u1 _);clear u1 hL;replace hk7:=hk7 qO;have h7:k7=0∨k7=1:=qO;obtain ⟨q,q0,q1,-⟩:=id Q.facts2;obtain ⟨z,z0,z1,z2,z3,z4,zf⟩:=id G.facts5;obtain ⟨r,r0,r1,r2,r3,r4,rf⟩:=id F.facts5
      rcases h7 with rfl|rfl
      · have fin:=zad9 (KEY8.out _ 0 (.int .i64 (-1)) h) (KEYU.out _ 0 (.int .i64 (-1)) u) hRX hcode
        have FIN:=Lib.hid fin;clear fin;go_wp2_with fail;refine bodyPost_ret (v:=.agg #[.int .i64 (-1),.int .i64 (t),.int .i64 ((k2:Int) - 12),.int .i64 ((k3:Int) - 12),.int .i64 ((k4:Int) - 5)]) (by simp [results,Tryz.results125,go_sem,r,r0,r1,r2,r3,r4]) rfl ?_
        exact ⟨⟨-1,t,(k2:Int) - 12,(k3:Int) - 12,(k4:Int) - 5⟩,_,rfl,by simp only;omega,by simp only;omega,by simp only;omega,by simp only;omega,by simp only;omega,fun h=>absurd h hN0,by omega,(FIN.out _ _ _ _ _).1,by rw [hX];exact (FIN.out _ _ _ _ _).2⟩
      · have fin:=zad9 (KEY8.out _ 0 (.int .i64 ((S:Int))) h) (KEYU.out _ 0 (.int .i64 ((S:Int))) u) hRX hcode
        have FIN:=Lib.hid fin;clear fin;go_wp2_with fail;refine bodyPost_ret (v:=.agg #[.int .i64 ((S:Int)),.int .i64 (t),.int .i64 ((k2:Int) - 12),.int .i64 ((k3:Int) - 12),.int .i64 ((k4:Int) - 5)]) (by simp [results,Tryz.results125,go_sem,r,r0,r1,r2,r3,r4]) rfl ?_
        exact ⟨⟨(S:Int),t,(k2:Int) - 12,(k3:Int) - 12,(k4:Int) - 5⟩,_,rfl,by simp only;omega,by simp only;omega,by simp only;omega,by simp only;omega,by simp only;omega,fun h=>absurd h hN0,by omega,(FIN.out _ _ _ _ _).1,by rw [hX];exact (FIN.out _ _ _ _ _).2⟩
    · skip
      go_wp2_with fail;obtain ⟨L,hL⟩:=qN (W.heap.size);obtain ⟨V,hV⟩:=qM (W.alloc (.cells #[.int .i64 (-100),.int .i64 (100)] 3))
      have Q:At V L [.int .i64 (-100),.int .i64 (100)]:=by rw [hV];exact At.new _ _ _ hL.symm rfl
      have bV:Below W.heap.size W V:=by rw [hV];exact qBl
      rw [hL,← hV];replace h:=h.below bV;replace F:=F.below bV;replace G:=G.below bV;replace u:=u.trans (Upto.grown (R:=R) bV (by have:=F.lt;omega));have hLR:L≠R:=qO;clear bV hV z z0 z1 z2 z3 z4 zf;refine (zaao _ _ _ _ _ _ _ h qO qO).mono ?_;rintro e W8 ⟨k7,rfl,hk7,-,h,u1⟩;replace Q:=Q.upto (u1 (L+1)) qO qO;replace F:=F.upto (u1 (L+1)) qO qO;replace G:=G.upto (u1 (L+1)) qO qO;replace u:=u.trans (u1 _);clear u1 hL;replace hk7:=hk7 qO;have h7:k7=0∨k7=1:=qO;obtain ⟨q,q0,q1,-⟩:=id Q.facts2;obtain ⟨z,z0,z1,z2,z3,z4,zf⟩:=id G.facts5;obtain ⟨r,r0,r1,r2,r3,r4,rf⟩:=id F.facts5
      rcases h7 with rfl|rfl
      · have fin:=zad9 (KEY8.out _ 2 (.int .i64 (-100)) h) (KEYU.out _ 2 (.int .i64 (-100)) u) hRX hcode
        have FIN:=Lib.hid fin;clear fin;go_wp2_with fail;refine bodyPost_ret (v:=.agg #[.int .i64 (k1),.int .i64 (t),.int .i64 (-100),.int .i64 ((k3:Int) - 12),.int .i64 ((k4:Int) - 5)]) (by simp [results,Tryz.results125,go_sem,r,r0,r1,r2,r3,r4]) rfl ?_
        exact ⟨⟨k1,t,-100,(k3:Int) - 12,(k4:Int) - 5⟩,_,rfl,by simp only;omega,by simp only;omega,by simp only;omega,by simp only;omega,by simp only;omega,fun h=>absurd h hN0,by omega,(FIN.out _ _ _ _ _).1,by rw [hX];exact (FIN.out _ _ _ _ _).2⟩
      · have fin:=zad9 (KEY8.out _ 2 (.int .i64 (100)) h) (KEYU.out _ 2 (.int .i64 (100)) u) hRX hcode
        have FIN:=Lib.hid fin;clear fin;go_wp2_with fail;refine bodyPost_ret (v:=.agg #[.int .i64 (k1),.int .i64 (t),.int .i64 (100),.int .i64 ((k3:Int) - 12),.int .i64 ((k4:Int) - 5)]) (by simp [results,Tryz.results125,go_sem,r,r0,r1,r2,r3,r4]) rfl ?_
        exact ⟨⟨k1,t,100,(k3:Int) - 12,(k4:Int) - 5⟩,_,rfl,by simp only;omega,by simp only;omega,by simp only;omega,by simp only;omega,by simp only;omega,fun h=>absurd h hN0,by omega,(FIN.out _ _ _ _ _).1,by rw [hX];exact (FIN.out _ _ _ _ _).2⟩
theorem zawa {B:Nat} {w w':World} (h:Below B w w') {X:Nat} (hX:B≤X) (a b:Value):Below B w ((w'.setCell ⟨X,0,none⟩ a).setCell ⟨X,1,none⟩ b) :=
 (h.setCell (p:=⟨X,0,none⟩) hX a).setCell (p:=⟨X,1,none⟩) hX b
structure SvSt (w:World) (R X Y B:Nat) (a:Option Addr) (n c q:Nat) (st:Int) (av:Option Addr) (cv:Nat) (legs:List Lg) (wr:World):Prop where
 r:Rdr wr R a n c q
 x:At wr X [.int .i64 0,.slice none 0 0]
 y:At wr Y [.int .i64 st,.slice av legs.length cv]
 o:OwnL wr B (.slice av legs.length cv) legs
 u:Upto X R w wr
 z:B≤wr.heap.size
 rx:R<X
 xy:X<Y
 yb:Y<B
 code:∀ b off,0<n→a=some ⟨b,off,none⟩→b<X
section
variable {w wr w2:World} {R X Y B:Nat} {a:Option Addr} {n c q q':Nat} {st:Int} {av:Option Addr} {cv:Nat} {legs:List Lg}
theorem SvSt.below (h:SvSt w R X Y B a n c q st av cv legs wr) (hb:Below wr.heap.size wr w2):SvSt w R X Y B a n c q st av cv legs w2 :=
 ⟨h.r.below hb,h.x.below hb,h.y.below hb,h.o.below hb,h.u.trans (Upto.of (hb.mono (by have:=h.z;have:=h.xy;have:=h.yb;omega))),Nat.le_trans h.z hb.size,h.rx,h.xy,h.yb,h.code⟩
theorem SvSt.alloc (h:SvSt w R X Y B a n c q st av cv legs wr) (o:Obj):SvSt w R X Y B a n c q st av cv legs (wr.alloc o):=h.below ((Below.refl _ _).alloc (Nat.le_refl _) o)
theorem SvSt.upto (h:SvSt w R X Y B a n c q st av cv legs wr) (hr:Rdr w2 R a n c q') (hu:Upto wr.heap.size R wr w2):SvSt w R X Y B a n c q' st av cv legs w2 :=
 ⟨hr,h.x.upto hu h.x.lt (by have:=h.rx;omega),h.y.upto hu h.y.lt (by have:=h.rx;have:=h.xy;omega),h.o.upto (by have:=h.rx;have:=h.xy;have:=h.yb;omega) hu (fun k hk=>(h.o.lt hk).2),h.u.trans (hu.mono (by have:=h.z;have:=h.xy;have:=h.yb;omega)),Nat.le_trans h.z hu.size,h.rx,h.xy,h.yb,h.code⟩
theorem SvSt.pick (h:SvSt w R X Y B a n c q st av cv legs wr) (hr:Rdr w2 R a n c q') (hu:∀ K,Upto K R wr w2):SvSt w R X Y B a n c q' st av cv legs w2:=h.upto hr (hu _)
theorem SvSt.ne (h:SvSt w R X Y B a n c q st av cv legs wr):∀ k,(Value.slice av legs.length cv).ownBlock=some k→k<wr.heap.size:=fun k hk=>(h.o.lt hk).2
theorem SvSt.store (h:SvSt w R X Y B a n c q st av cv legs wr) {p:Addr} (hp:B≤p.block) (hne:∀ k,(Value.slice av legs.length cv).ownBlock=some k→k≠p.block) (v:Value):SvSt w R X Y B a n c q st av cv legs (wr.setCell p v) :=
 ⟨Rdr.keep (B:=B) h.r (by have:=h.rx;have:=h.xy;have:=h.yb;omega) (fun b off h0 e=>by have:=h.code b off h0 e;have:=h.xy;have:=h.yb;omega) ((Below.refl B wr).setCell hp v),h.x.setOther (by have:=h.xy;have:=h.yb;omega) v,h.y.setOther (by have:=h.yb;omega) v,h.o.setOther (fun e=>hne _ e rfl) v,h.u.trans (Upto.of ((Below.refl X wr).setCell (by have:=h.xy;have:=h.yb;omega) v)),by simpa [World.setCell] using h.z,h.rx,h.xy,h.yb,h.code⟩
theorem SvSt.store5 (h:SvSt w R X Y B a n c q st av cv legs wr) {G:Nat} (hp:B≤G) (hne:∀ k,(Value.slice av legs.length cv).ownBlock=some k→k≠G) (v0 v1 v2 v3 v4:Value) :
 SvSt w R X Y B a n c q st av cv legs (((((wr.setCell ⟨G,0,none⟩ v0).setCell ⟨G,1,none⟩ v1).setCell ⟨G,2,none⟩ v2).setCell ⟨G,3,none⟩ v3).setCell ⟨G,4,none⟩ v4) :=
 ((((h.store (p:=⟨G,0,none⟩) hp hne v0).store (p:=⟨G,1,none⟩) hp hne v1).store (p:=⟨G,2,none⟩) hp hne v2).store (p:=⟨G,3,none⟩) hp hne v3).store (p:=⟨G,4,none⟩) hp hne v4
theorem SvSt.more (h:SvSt w R X Y B a n c q st av cv legs wr) {av':Option Addr} {cv':Nat} {legs':List Lg} (hb:Below B wr w2) (ho:OwnL w2 B (.slice av' legs'.length cv') legs'):SvSt w R X Y B a n c q st av' cv' legs' (w2.setCell ⟨Y,1,none⟩ (.slice av' legs'.length cv')):=by
 have h1:=h.xy;have h2:=h.yb;have h3:=h.rx;have hy2:=(h.y.belowB hb h2).set 1 (.slice av' legs'.length cv')
 exact ⟨Rdr.keep (B:=Y) (Rdr.keep h.r qO (fun b off h0 e=>by have:=h.code b off h0 e;omega) hb) qO (fun b off h0 e=>by have:=h.code b off h0 e;omega) ((Below.refl Y w2).setCell (p:=⟨Y,1,none⟩) (Nat.le_refl _) _),(h.x.belowB hb qO).setOther (by show X≠Y;omega) _,hy2,ho.setCell (by show Y<B;exact h2) _,(h.u.trans (Upto.of (hb.mono qO))).trans (Upto.of ((Below.refl X w2).setCell (p:=⟨Y,1,none⟩) (by show X≤Y;omega) _)),by have:=hb.size;have:=h.z;simp [World.setCell];omega,h.rx,h.xy,h.yb,h.code⟩
theorem SvSt.sta (h:SvSt w R X Y B a n c q st av cv legs wr) (st':Int):SvSt w R X Y B a n c q st' av cv legs (wr.setCell ⟨Y,0,none⟩ (.int .i64 st')):=by
 have h1:=h.xy;have h2:=h.yb;have h3:=h.rx
 exact ⟨Rdr.keep (B:=Y) h.r qO (fun b off h0 e=>by have:=h.code b off h0 e;omega) ((Below.refl Y wr).setCell (p:=⟨Y,0,none⟩) (Nat.le_refl _) _),h.x.setOther (by show X≠Y;omega) _,h.y.set 0 _,h.o.setCell (by show Y<B;exact h2) _,h.u.trans (Upto.of ((Below.refl X wr).setCell (p:=⟨Y,0,none⟩) (by show X≤Y;omega) _)),by simpa [World.setCell] using h.z,h.rx,h.xy,h.yb,h.code⟩
end
def DrawnSv (R:Nat) (a:Option Addr) (n c p:Nat) (w:World) (e:Ending) (w':World):Prop :=
 ∃ (s:Sv) (v:Value) (q:Nat),e=.returned (.agg #[.int .i64 s.st,v])∧OwnL w' w.heap.size v s.legs∧s.legs.length≤10∧(0≤s.st∧s.st≤7)∧q≤p+500∧Rdr w' R a n c q∧Upto w.heap.size R w w'
theorem SvSt.done {w wr:World} {R X Y B:Nat} {a:Option Addr} {n c p q:Nat} {st:Int} {av:Option Addr} {cv:Nat} {legs:List Lg} (h:SvSt w R X Y B a n c q st av cv legs wr) (hX:w.heap.size=X) (hl:legs.length≤10) (hst:0≤st∧st≤7) (hq:q≤p+500) :
 DrawnSv R a n c p w (.returned (.agg #[.int .i64 st,.slice av legs.length cv])) ((wr.setCell ⟨X,0,none⟩ (.int .i64 st)).setCell ⟨X,1,none⟩ (.slice av legs.length cv)):=by
 have h1:=h.xy;have h2:=h.yb;have hb:=zawa (Below.refl X wr) (Nat.le_refl X) (.int .i64 st) (.slice av legs.length cv)
 refine ⟨⟨st,legs⟩,_,q,rfl,?_,hl,hst,hq,Rdr.keep (B:=X) h.r h.rx (fun b off h0 e=>h.code b off h0 e) hb,by rw [hX];exact h.u.trans (Upto.of hb)⟩
 exact ((h.o.setCell (p:=⟨X,0,none⟩) (by show X<B;omega) _).setCell (p:=⟨X,1,none⟩) (by show X<B;omega) _).mono qO
theorem Upto.alloc' {K R:Nat} {w w':World} (h:Upto K R w w') (hK:K≤w'.heap.size) (o:Obj):Upto K R w (w'.alloc o):=h.trans (Upto.of ((Below.refl K w').alloc hK o))
theorem Upto.drew' {K R:Nat} {w w':World} (h:Upto K R w w'):Upto K R w w'.drew:=h.trans (Upto.of ((Below.refl K w').drew))
theorem Upto.next {K R:Nat} {V W W':World} (h:Upto K R V W) (c:∀ K,Upto K R W W'):Upto K R V W':=h.trans (c K)
theorem At.bornU {R:Nat} {V W w':World} {cs:Array Value} {T:TypeId} (hR:R<V.heap.size) (hV:V.heap.size≤W.heap.size) (c:∀ K,Upto K R (W.alloc (.cells cs T)) w'):At w' W.heap.size cs.toList:=(At.new W cs T rfl rfl).upto (c (W.heap.size+1)) qO qO
end Go.Proofs.YthfoloefkfadlaaGreatDoor
