/- Walks: impl.DeedsRun, spec.DeedsRun. -/
import Derived.Test.YthfoloefkfadlaaGreatDoorK5
import Derived.Test.YthfoloefkfadlaaGreatDoorK7
import Derived.Test.YthfoloefkfadlaaGreatDoorK3
import Derived.Deep.RegionHeld3
import Derived.Deep.DeepCutAuto
set_option linter.unusedSimpArgs false
set_option linter.unusedVariables false
set_option maxHeartbeats 2000000
set_option maxRecDepth 100000
namespace Go.Proofs.YthfoloefkfadlaaGreatDoor
open Go Go.RowKit Go.Sort
def RunOut (p:Sv × Nat) (w:World) (e:Ending) (w':World):Prop:=∃ v,e=.returned (.tuple #[.agg #[.int .i64 p.1.st,v],.int .i64 (p.2:Int)])∧OwnL w' w.heap.size v p.1.legs∧Below w.heap.size w w'
structure RunAt (w:World) (X Y:Nat) (s0:Sv) (ds:List Dd) (k:Nat) (s:Sv) (a:Option Addr) (c:Nat) (wr:World):Prop where
 le:k≤ds.length
 ok:svOk s=true
 y:At wr Y [.int .i64 s.st,.slice a s.legs.length c]
 r:At wr (X+1) [.int .i64 0,.slice none 0 0]
 own:OwnL wr (X+1+1) (.slice a s.legs.length c) s.legs
 ne:∀ j,(Value.slice a s.legs.length c).ownBlock=some j→j≠Y
 lt:X+1<Y
 b:Below X w wr
 run:runFrom s0 ds=((runFrom s (ds.drop k)).1,k+(runFrom s (ds.drop k)).2)
def RunHd (w:World) (X Y:Nat) (s0:Sv) (ds:List Dd) (i:Value) (wr:World):Prop:=∃ k s a c,i=.int .i64 (k:Nat)∧RunAt w X Y s0 ds k s a c wr
theorem zaht {s:Sv} {ds:List Dd} {k:Nat} (hk:k<ds.length) (h:(ddDo s (nth ds k)).2=false):runFrom s (ds.drop k)=(s,0):=by
 rw [zab3 hk];simp [runFrom,h]
theorem zakp {s:Sv} {ds:List Dd} {k:Nat} (hk:k<ds.length) (h:(ddDo s (nth ds k)).2=true):runFrom s (ds.drop k)=((runFrom (ddDo s (nth ds k)).1 (ds.drop (k+1))).1,(runFrom (ddDo s (nth ds k)).1 (ds.drop (k+1))).2+1):=by
 rw [zab3 hk];simp [runFrom,h]
theorem zaix {s:Sv} {ds:List Dd} {k:Nat} (hk:ds.length≤k):runFrom s (ds.drop k)=(s,0):=by
 rw [zaws hk];rfl
theorem zapn (a a2:Option Addr) (c c2:Nat) (st:Int) (l:List Lg) (ds:List Dd) (w:World) (hl:l.length≤1048576) (hs:Legs w a l) (hv:svOk ⟨st,l⟩=false) :
 Calls Tryz.prog 53 #[.agg #[.int .i64 st,.slice a l.length c],.slice a2 ds.length c2] w (RunOut (ddRun ⟨st,l⟩ ds) w):=by
 rw [zahk hv]
 go_enter Tryz.func53,Tryz.ntmps53
 go_wp2_with (go_at_call 74;refine (zaab _ _ st l _ hl (hs.below qBl)).mono ?_;rintro e w1 ⟨rfl,b1⟩;rw [hv];obtain ⟨hc,hf⟩:=bcell b1)
 refine bodyPost_ret (v:=.tuple #[.agg #[.int .i64 0,.slice none 0 0],.int .i64 0]) (by simp [results,Tryz.results53,go_sem,hc]) rfl ⟨_,rfl,KOwn.nil,(by repeat (first|with_reducible assumption|with_reducible exact Below.refl _ _|refine Below.setCell ?_ qSo _|refine Below.alloc ?_ qSo _|with_reducible exact Below.trans (Below.refl _ _) b1|refine Below.trans ?_ (Below.mono b1 qSo)|refine below_drewN ?_ _|refine Below.drew ?_))⟩
theorem zare (a a2:Option Addr) (c c2:Nat) (st:Int) (l:List Lg) (ds:List Dd) (w:World) (hl:l.length≤1048576) (hd:ds.length≤1048576) (hs:Legs w a l) (hds:Dds w a2 ds) (hv:svOk ⟨st,l⟩=true) :
 Calls Tryz.prog 53 #[.agg #[.int .i64 st,.slice a l.length c],.slice a2 ds.length c2] w (RunOut (runFrom ⟨st,l⟩ ds) w):=by
 obtain ⟨X,hX⟩:=qN (w.heap.size);obtain ⟨W1,hW1⟩:=qM ((w.alloc (.cells #[.int .i64 st,.slice a l.length c] 25)).alloc (.cells #[.int .i64 0,.slice none 0 0] 25))
 have S0:At W1 X [.int .i64 st,.slice a l.length c]:=by rw [hW1];exact (At.new _ _ _ hX.symm rfl).alloc _
 have R0:At W1 (X+1) [.int .i64 0,.slice none 0 0]:=by rw [hW1];exact At.new _ _ _ (by simp [hX]) rfl
 have b0:Below w.heap.size w W1:=by rw [hW1];exact qBl
 go_enter Tryz.func53,Tryz.ntmps53
 go_wp2_with fail;rw [← hW1];clear hW1;refine (zaab _ _ st l _ hl (hs.below b0)).mono ?_;rintro e w1 ⟨rfl,k1⟩;rw [hv];replace S0:=S0.below k1;replace R0:=R0.below k1;replace b0:=b0.trans (k1.mono b0.size);clear k1;obtain ⟨s0,s1,s2,-⟩:=S0.facts2;go_wp2_with fail;clear s0 s1 s2;refine (zaai _ _ st l _ hl (hs.below b0)).mono ?_;rintro e w2 ⟨v2,rfl,o2,k2⟩;obtain ⟨av,cv,rfl⟩:=o2.sl;have hz1:=R0.lt;replace R0:=R0.below k2;replace b0:=b0.trans (k2.mono b0.size);clear k2 S0;go_wp2_with fail;obtain ⟨Y,hY⟩:=qN (w2.heap.size);obtain ⟨W3,hW3⟩:=qM (w2.alloc (.cells #[.int .i64 st,.slice av l.length cv] 25))
 have k3:Below w2.heap.size w2 W3:=by rw [hW3];exact qBl
 have Y0:At W3 Y [.int .i64 st,.slice av l.length cv]:=by rw [hW3];exact At.new _ _ _ hY.symm rfl
 have hd0:RunHd w X Y ⟨st,l⟩ ds (.int .i64 ((0:Nat):Int)) W3:=⟨0,⟨st,l⟩,av,cv,rfl,Nat.zero_le _,hv,Y0,R0.below k3,(o2.below k3).mono qO,fun j hj=>by have:=(o2.lt hj).2;omega,by have:=R0.lt;omega,by rw [← hX];exact b0.trans (k3.mono b0.size),by simp⟩
 rw [hY,← hW3];clear hW3 k3 Y0 R0 o2 hz1 b0 hY
 go_loopw [19] (fun i wr=>RunHd w X Y ⟨st,l⟩ ds i wr) (fun i _=>ds.length - (intOf i).toNat)
 case atStart=>exact hd0
 case round =>
  obtain ⟨k,⟨sst,sl⟩,av,cv,rfl,hr⟩:=hrel;clear hd0
  have hb0:Below w.heap.size w wr:=by rw [hX];exact hr.b
  have hsl:=zafg hr.ok;simp only at hsl;have hle:=hr.le;obtain ⟨y0,y1,y2,y3⟩:=hr.y.facts2;simp only at y1 y2;obtain ⟨r0,r1,r2,r3⟩:=hr.r.facts2
  by_cases hlt:k<ds.length
  · obtain ⟨⟨⟨tst,tl⟩,ok⟩,hp⟩:=qN (ddDo ⟨sst,sl⟩ (nth ds k))
    have K:=fun (w':World) (h:Legs w' av sl)=>zag2 av cv sst sl (nth ds k) w' qO h
    rw [hp] at K;have HK:=Lib.hid K;have HP:=Lib.hid hp;clear K hp;obtain ⟨b,off,rfl,hbw,m0,m1,m2,m3,m4,m5,m6⟩:=Dds.at (hds.below hb0) hlt
    cases ok
    · have HE:Hid (runFrom ⟨st,l⟩ ds=(⟨sst,sl⟩,k)):=by
       show _=_
       rw [hr.run,zaht hlt (by rw [HP.out])];rfl
      go_wp2_with fail;refine (HK.out _ (hr.own.alloc _).kr).mono ?_;rintro e w5 ⟨v5,rfl,o5,k5⟩;simp only;have Y5:=(hr.y.alloc _).below k5;have R5:=(hr.r.alloc _).below k5;have o6:=(hr.own.alloc _).below k5;have b5:=(hr.b.alloc (by have:=hr.b.size;omega) _).trans (k5.mono (by have:=hr.b.size;simp;omega));obtain ⟨a5,c5,rfl⟩:=o5.sl;clear m0 m1 m2 m3 m4 m5 m6 y0 y1 y2 y3 r0 r1 r2 r3 k5 o5;obtain ⟨y0,y1,y2,y3⟩:=Y5.facts2;simp only at y1 y2;obtain ⟨r0,r1,r2,r3⟩:=R5.facts2;go_wp2_with fail;obtain ⟨f0,f1,f2,-⟩:=(((R5.set 0 (.int .i64 sst)).set 1 (.slice av sl.length cv)).alloc (.cells #[.int .i64 tst,.slice a5 tl.length c5] 25)).facts2;refine bodyPost_ret (v:=.tuple #[.agg #[.int .i64 sst,.slice av sl.length cv],.int .i64 (k:Int)]) (by simp [results,Tryz.results53,go_sem,f1,f2]) rfl ?_;rw [HE.out]
      refine ⟨_,rfl,?_,?_⟩
      · exact (((o6.setCell (p:=⟨X+1,0,none⟩) (by show X+1<_;omega) _).setCell (p:=⟨X+1,1,none⟩) (by show X+1<_;omega) _).alloc _).mono qO
      · rw [hX];exact ((b5.setCell (p:=⟨X+1,0,none⟩) (by show X≤X+1;omega) _).setCell (p:=⟨X+1,1,none⟩) (by show X≤X+1;omega) _).alloc (by have:=b5.size;simp [World.setCell];omega) _
    · have hok2:svOk ⟨tst,tl⟩=true:=by
       have:=zaew (d:=nth ds k) hr.ok;rw [HP.out] at this;exact this
      have HE:Hid (runFrom ⟨st,l⟩ ds=((runFrom ⟨tst,tl⟩ (ds.drop (k+1))).1,(k+1)+(runFrom ⟨tst,tl⟩ (ds.drop (k+1))).2)):=by
       show _=_
       rw [hr.run,zakp hlt (by rw [HP.out]),HP.out];simp only [Prod.mk.injEq,true_and];omega
      go_wp2_with fail;refine (HK.out _ (hr.own.alloc _).kr).mono ?_;rintro e w5 ⟨v5,rfl,o5,k5⟩;simp only;have Y5:=(hr.y.alloc _).below k5;have R5:=(hr.r.alloc _).below k5;have b5:=(hr.b.alloc (by have:=hr.b.size;omega) _).trans (k5.mono (by have:=hr.b.size;simp;omega));have hz5:=k5.size
      simp at hz5
      obtain ⟨a5,c5,rfl⟩:=o5.sl;replace o5:=o5.mono (B':=wr.heap.size) qP;have hYw:=hr.y.lt;have hXY:=hr.lt;clear m0 m1 m2 m3 m4 m5 m6 y0 y1 y2 y3 r0 r1 r2 r3 k5;obtain ⟨y0,y1,y2,y3⟩:=Y5.facts2;simp only at y1 y2;obtain ⟨r0,r1,r2,r3⟩:=R5.facts2;go_wp2_with fail;go_roundw
      case rel =>
       refine ⟨k+1,⟨tst,tl⟩,a5,c5,by go_num,by omega,hok2,((Y5.set 0 _).set 1 _).alloc _,((R5.setOther (p:=⟨Y,0,none⟩) (by show X+1≠Y;omega) _).setOther (p:=⟨Y,1,none⟩) (by show X+1≠Y;omega) _).alloc _,?_,fun j hj=>by have:=(o5.lt hj).1;omega,by omega,?_,HE.out⟩
       · exact (((o5.setCell (p:=⟨Y,0,none⟩) (by show Y<_;omega) _).setCell (p:=⟨Y,1,none⟩) (by show Y<_;omega) _).alloc _).mono qO
       · exact ((b5.setCell (p:=⟨Y,0,none⟩) (by show X≤Y;omega) _).setCell (p:=⟨Y,1,none⟩) (by show X≤Y;omega) _).alloc (by have:=b5.size;simp [World.setCell];omega) _
      case measure=>simp [intOf] <;> omega
  · have HE:Hid (runFrom ⟨st,l⟩ ds=(⟨sst,sl⟩,ds.length)):=by
     show _=_
     rw [hr.run,zaix qO];have:k=ds.length:=qO;rw [this];rfl
    go_wp2_with fail;obtain ⟨f0,f1,f2,-⟩:=((hr.r.set 0 (.int .i64 sst)).set 1 (.slice av sl.length cv)).facts2;refine bodyPost_ret (v:=.tuple #[.agg #[.int .i64 sst,.slice av sl.length cv],.int .i64 (ds.length:Int)]) (by simp [results,Tryz.results53,go_sem,f1,f2]) rfl ?_;rw [HE.out]
    refine ⟨_,rfl,?_,?_⟩
    · exact ((hr.own.setCell (p:=⟨X+1,0,none⟩) (by show X+1<_;omega) _).setCell (p:=⟨X+1,1,none⟩) (by show X+1<_;omega) _).mono qO
    · rw [hX];exact (hr.b.setCell (p:=⟨X+1,0,none⟩) (by show X≤X+1;omega) _).setCell (p:=⟨X+1,1,none⟩) (by show X≤X+1;omega) _
theorem KOwn.caps {α:Type} [Inhabited α] {K:Kind α} {T:TypeId} {w:World} {B:Nat} {a:Option Addr} {n c:Nat} {xs:List α} (hh:KOwn K T w B (.slice a n c) xs):xs.length≤c∧c≤9223372036854775807∧∀ ad,a=some ad→ad.spot=none:=by
 obtain ⟨a',c',e,h1,h2,h3,h4,h5⟩:=hh.form
 cases e
 refine ⟨h1,by unfold maxLen at h2;omega,fun ad h=>?_⟩
 subst h
 rcases hh.2 with ⟨e,_⟩|⟨g,cap,cur,e,_⟩
 · cases e
 · cases e;rfl
theorem zant (a a2:Option Addr) (c c2:Nat) (st:Int) (l:List Lg) (ds:List Dd) (w:World) (hl:l.length≤1048576) (hs:Legs w a l) (hv:svOk ⟨st,l⟩=false) :
 Calls Tryz.prog 43 #[.agg #[.int .i64 st,.slice a l.length c],.slice a2 ds.length c2] w (RunOut (ddRun ⟨st,l⟩ ds) w):=by
 rw [zahk hv]
 go_enter Tryz.func43,Tryz.ntmps43
 go_wp2_with (go_at_call 42;refine (zaaa _ _ st l _ hl (hs.below qBl)).mono ?_;rintro e w1 ⟨rfl,b1⟩;rw [hv];obtain ⟨hc,hf⟩:=bcell b1)
 refine bodyPost_ret (v:=.tuple #[.agg #[.int .i64 0,.slice none 0 0],.int .i64 0]) (by simp [results,Tryz.results43,go_sem,hc]) rfl ⟨_,rfl,KOwn.nil,(by repeat (first|with_reducible assumption|with_reducible exact Below.refl _ _|refine Below.setCell ?_ qSo _|refine Below.alloc ?_ qSo _|with_reducible exact Below.trans (Below.refl _ _) b1|refine Below.trans ?_ (Below.mono b1 qSo)|refine below_drewN ?_ _|refine Below.drew ?_))⟩
theorem zapo (a a2:Option Addr) (c c2:Nat) (st:Int) (l:List Lg) (ds:List Dd) (w:World) (hl:l.length≤1048576) (hd:ds.length≤1048576) (hs:Legs w a l) (hds:Dds w a2 ds) (hv:svOk ⟨st,l⟩=true) :
 Calls Tryz.prog 43 #[.agg #[.int .i64 st,.slice a l.length c],.slice a2 ds.length c2] w (RunOut (runFrom ⟨st,l⟩ ds) w):=by
 obtain ⟨X,hX⟩:=qN (w.heap.size);obtain ⟨W1,hW1⟩:=qM ((w.alloc (.cells #[.int .i64 st,.slice a l.length c] 25)).alloc (.cells #[.int .i64 0,.slice none 0 0] 25))
 have S0:At W1 X [.int .i64 st,.slice a l.length c]:=by rw [hW1];exact (At.new _ _ _ hX.symm rfl).alloc _
 have R0:At W1 (X+1) [.int .i64 0,.slice none 0 0]:=by rw [hW1];exact At.new _ _ _ (by simp [hX]) rfl
 have b0:Below w.heap.size w W1:=by rw [hW1];exact qBl
 go_enter Tryz.func43,Tryz.ntmps43
 go_wp2_with fail;rw [← hW1];clear hW1;refine (zaaa _ _ st l _ hl (hs.below b0)).mono ?_;rintro e w1 ⟨rfl,k1⟩;rw [hv];replace S0:=S0.below k1;replace R0:=R0.below k1;replace b0:=b0.trans (k1.mono b0.size);clear k1;obtain ⟨s0,s1,s2,-⟩:=S0.facts2;go_wp2_with fail;clear s0 s1 s2;refine (zaah _ _ st l _ hl (hs.below b0)).mono ?_;rintro e w2 ⟨v2,rfl,o2,k2⟩;obtain ⟨av,cv,rfl⟩:=o2.sl;have hz1:=R0.lt;replace R0:=R0.below k2;replace b0:=b0.trans (k2.mono b0.size);clear k2 S0;go_wp2_with fail;obtain ⟨Y,hY⟩:=qN (w2.heap.size);obtain ⟨W3,hW3⟩:=qM (w2.alloc (.cells #[.int .i64 st,.slice av l.length cv] 25))
 have k3:Below w2.heap.size w2 W3:=by rw [hW3];exact qBl
 have Y0:At W3 Y [.int .i64 st,.slice av l.length cv]:=by rw [hW3];exact At.new _ _ _ hY.symm rfl
 have hd0:RunHd w X Y ⟨st,l⟩ ds (.int .i64 ((0:Nat):Int)) W3:=⟨0,⟨st,l⟩,av,cv,rfl,Nat.zero_le _,hv,Y0,R0.below k3,(o2.below k3).mono qO,fun j hj=>by have:=(o2.lt hj).2;omega,by have:=R0.lt;omega,by rw [← hX];exact b0.trans (k3.mono b0.size),by simp⟩
 rw [hY,← hW3];clear hW3 k3 Y0 R0 o2 hz1 b0 hY
 go_loopw [7] (fun i wr=>RunHd w X Y ⟨st,l⟩ ds i wr) (fun i _=>ds.length - (intOf i).toNat)
 case atStart=>exact hd0
 case round =>
  obtain ⟨k,⟨sst,sl⟩,av,cv,rfl,hr⟩:=hrel;clear hd0
  have hb0:Below w.heap.size w wr:=by rw [hX];exact hr.b
  have hsl:=zafg hr.ok;simp only at hsl;have hle:=hr.le;have hcap:sl.length≤cv∧cv≤9223372036854775807∧∀ ad,av=some ad→ad.spot=none:=hr.own.caps;obtain ⟨y0,y1,y2,y3⟩:=hr.y.facts2;simp only at y1 y2;obtain ⟨r0,r1,r2,r3⟩:=hr.r.facts2
  by_cases hlt:k<ds.length
  · obtain ⟨⟨⟨tst,tl⟩,ok⟩,hp⟩:=qN (ddDo ⟨sst,sl⟩ (nth ds k))
    have K:=fun (w':World) (h:Legs w' av sl)=>zaiw av cv sst sl (nth ds k) w' qO hcap.1 hcap.2.1 hcap.2.2 h
    rw [hp] at K;have HK:=Lib.hid K;have HP:=Lib.hid hp;clear K hp;obtain ⟨b,off,rfl,hbw,m0,m1,m2,m3,m4,m5,m6⟩:=Dds.at (hds.below hb0) hlt;have hq:=hr.own.kr;have hlt2:(k:Int)<(ds.length:Int):=qO;go_upto_region 7 with fail
    go_cut [8,9] (fun p8 p9 wx=>p9=.bool ok∧BoxS wr ⟨tst,tl⟩ p8 wx)
    case first =>
     go_region_held3 (fun w'=>Below wr.heap.size wr w'∧∀ b o,b<wr.heap.size→w'.cell? ⟨b,o,none⟩=wr.cell? ⟨b,o,none⟩) (exact kept qHb)
      (first
      | (go_at_call 86;refine (HK.out _ (hq.below qHb)).mono ?_;rintro e wz ⟨vz,rfl,oz,c⟩;obtain ⟨az,cz,rfl⟩:=oz.sl;have Bz:=zaae (V:=wr) qHb c;have zz:=Bz.size;(first|have hA0:=A0.lt|skip);(first|have A0:=A0.below c|have A0:=A0.drew.below c|have A0:=At.born c|have A0:=At.bornD c|skip);(first|obtain ⟨j0,j1,j2,j3⟩:=A0.facts2|skip);clear c))
     all_goals (go_wp2_with fail;go_meet)
     all_goals exact ⟨rfl,(by first|with_reducible exact zagz (s:=⟨tst,tl⟩) oz qSo Bz|exact zag0 (s:=⟨tst,tl⟩) A0 qSo oz qSo (by first|exact hA0|simp) Bz)⟩
    case rest =>
     obtain ⟨rfl,Z,az,cz,rfl,hZ,AZ,oz,nz,bZ⟩:=hcut;simp only at AZ oz nz;have Yw:=hr.y.below bZ;have Rw:=hr.r.below bZ;have ow:=hr.own.below bZ;have hYw:=hr.y.lt;have hXY:=hr.lt;have bw:=hr.b.trans (bZ.mono qO);clear m0 m1 m2 m3 m4 m5 m6 y0 y1 y2 y3 r0 r1 r2 r3 hq;obtain ⟨z0,z1,z2,z3⟩:=AZ.facts2;obtain ⟨y0,y1,y2,y3⟩:=Yw.facts2;simp only at y1 y2;obtain ⟨r0,r1,r2,r3⟩:=Rw.facts2
     cases ok
     · have HE:Hid (runFrom ⟨st,l⟩ ds=(⟨sst,sl⟩,k)):=by
        show _=_
        rw [hr.run,zaht hlt (by rw [HP.out])];rfl
       go_wp2_with fail;obtain ⟨f0,f1,f2,-⟩:=((Rw.set 0 (.int .i64 sst)).set 1 (.slice av sl.length cv)).facts2;refine bodyPost_ret (v:=.tuple #[.agg #[.int .i64 sst,.slice av sl.length cv],.int .i64 (k:Int)]) (by simp [results,Tryz.results43,go_sem,f1,f2]) rfl ?_;rw [HE.out]
       refine ⟨_,rfl,?_,?_⟩
       · exact ((ow.setCell (p:=⟨X+1,0,none⟩) (by show X+1<_;omega) _).setCell (p:=⟨X+1,1,none⟩) (by show X+1<_;omega) _).mono qO
       · rw [hX];exact (bw.setCell (p:=⟨X+1,0,none⟩) (by show X≤X+1;omega) _).setCell (p:=⟨X+1,1,none⟩) (by show X≤X+1;omega) _
     · have hok2:svOk ⟨tst,tl⟩=true:=by
        have:=zaew (d:=nth ds k) hr.ok;rw [HP.out] at this;exact this
       have HE:Hid (runFrom ⟨st,l⟩ ds=((runFrom ⟨tst,tl⟩ (ds.drop (k+1))).1,(k+1)+(runFrom ⟨tst,tl⟩ (ds.drop (k+1))).2)):=by
        show _=_
        rw [hr.run,zakp hlt (by rw [HP.out]),HP.out];simp only [Prod.mk.injEq,true_and];omega
       go_wp2_with fail
       have rel:RunHd w X Y ⟨st,l⟩ ds (.int .i64 ((k:Int)+1)) ((wc.setCell ⟨Y,0,none⟩ (.int .i64 tst)).setCell ⟨Y,1,none⟩ (.slice az tl.length cz)):=by
        refine ⟨k+1,⟨tst,tl⟩,az,cz,by go_num,by omega,hok2,(Yw.set 0 _).set 1 _,(Rw.setOther (p:=⟨Y,0,none⟩) (by show X+1≠Y;omega) _).setOther (p:=⟨Y,1,none⟩) (by show X+1≠Y;omega) _,?_,fun j hj=>by have:=(oz.lt hj).1;omega,by omega,?_,HE.out⟩
        · exact ((oz.setCell (p:=⟨Y,0,none⟩) (by show Y<_;omega) _).setCell (p:=⟨Y,1,none⟩) (by show Y<_;omega) _).mono qO
        · exact (bw.setCell (p:=⟨Y,0,none⟩) (by show X≤Y;omega) _).setCell (p:=⟨Y,1,none⟩) (by show X≤Y;omega) _
       go_roundw
       case rel=>exact rel
       case measure=>simp [intOf] <;> omega
  · have HE:Hid (runFrom ⟨st,l⟩ ds=(⟨sst,sl⟩,ds.length)):=by
     show _=_
     rw [hr.run,zaix qO];have:k=ds.length:=qO;rw [this];rfl
    go_wp2_with fail;obtain ⟨f0,f1,f2,-⟩:=((hr.r.set 0 (.int .i64 sst)).set 1 (.slice av sl.length cv)).facts2;refine bodyPost_ret (v:=.tuple #[.agg #[.int .i64 sst,.slice av sl.length cv],.int .i64 (ds.length:Int)]) (by simp [results,Tryz.results43,go_sem,f1,f2]) rfl ?_;rw [HE.out]
    refine ⟨_,rfl,?_,?_⟩
    · exact ((hr.own.setCell (p:=⟨X+1,0,none⟩) (by show X+1<_;omega) _).setCell (p:=⟨X+1,1,none⟩) (by show X+1<_;omega) _).mono qO
    · rw [hX];exact (hr.b.setCell (p:=⟨X+1,0,none⟩) (by show X≤X+1;omega) _).setCell (p:=⟨X+1,1,none⟩) (by show X≤X+1;omega) _
theorem zahu (a:Option Addr) (c:Nat) (st:Int) (l:List Lg) (a2:Option Addr) (c2:Nat) (ds:List Dd) (w:World) (hl:l.length≤1048576) (hd:ds.length≤1048576) (hs:Legs w a l) (hds:Dds w a2 ds) :
 Calls Tryz.prog 53 #[.agg #[.int .i64 st,.slice a l.length c],.slice a2 ds.length c2] w (RunOut (ddRun ⟨st,l⟩ ds) w):=by
 cases hv:svOk ⟨st,l⟩
 · exact zapn a a2 c c2 st l ds w hl hs hv
 · rw [zacl hv];exact zare a a2 c c2 st l ds w hl hd hs hds hv
theorem zaeu (a:Option Addr) (c:Nat) (st:Int) (l:List Lg) (a2:Option Addr) (c2:Nat) (ds:List Dd) (w:World) (hl:l.length≤1048576) (hd:ds.length≤1048576) (hs:Legs w a l) (hds:Dds w a2 ds) :
 Calls Tryz.prog 43 #[.agg #[.int .i64 st,.slice a l.length c],.slice a2 ds.length c2] w (RunOut (ddRun ⟨st,l⟩ ds) w):=by
 cases hv:svOk ⟨st,l⟩
 · exact zant a a2 c c2 st l ds w hl hs hv
 · rw [zacl hv];exact zapo a a2 c c2 st l ds w hl hd hs hds hv
theorem zamu (s:Sv) (ds:List Dd):(ddRun s ds).1.legs.length≤9:=by
 cases h:svOk s
 · rw [zahk h];exact Nat.zero_le _
 · rw [zacl h];exact zafg (zacp ds s h)
end Go.Proofs.YthfoloefkfadlaaGreatDoor
