/- Walks: spec.ReadSurvey. -/
import Derived.Test.YthfoloefkfadlaaGreatDoorT4
import Derived.Test.YthfoloefkfadlaaGreatDoorK4
set_option linter.unusedSimpArgs false
set_option linter.unusedVariables false
namespace Go.Proofs.YthfoloefkfadlaaGreatDoor
open Go Go.RowKit Go.Sort
theorem zaw4 (w:World) (x1 x2 x3 x4 x5:Int) (T:TypeId):Legs (w.alloc (.cells #[.int .i64 x1,.int .i64 x2,.int .i64 x3,.int .i64 x4,.int .i64 x5] T)) (some ⟨w.heap.size,0,none⟩) [⟨x1,x2,x3,x4,x5⟩]:=by
 refine KRd.mk qP fun j u hu=>?_
 rw [Nat.zero_add]
 exact (At.new (X:=w.heap.size) w _ T rfl rfl).c j u (by rw [zaa4,zabi,List.append_nil] at hu;exact hu)
theorem zai7:∀ (l:List ByteArray) (t:ByteArray) (gs:List Lg),rdLegs l=some gs→rdLegs (l ++ [t])=match rdLeg t with
  | some g=>some (gs ++ [g])
  | none=>none
 | [],t,gs,h=>by
   simp only [rdLegs,Option.some.injEq] at h;subst h;simp only [List.nil_append,rdLegs]
   cases rdLeg t <;> rfl
 | a :: l,t,gs,h=>by
   rw [rdLegs] at h;rw [List.cons_append,rdLegs]
   cases ha:rdLeg a with
   | none=>rw [ha] at h;cases h
   | some g =>
     rw [ha] at h;simp only at h ⊢
     cases hl:rdLegs l with
     | none=>rw [hl] at h;cases h
     | some m =>
       rw [hl] at h;simp only [Option.some.injEq] at h;subst h;rw [zai7 l t m hl]
       cases rdLeg t <;> rfl
theorem zak1:∀ (l:List ByteArray) {t:ByteArray},t ∈ l→rdLeg t=none→rdLegs l=none
 | [],t,h,_=>by cases h
 | a :: l,t,h,hn=>by
   rw [rdLegs]
   rcases List.mem_cons.1 h with rfl|h
   · rw [hn]
   · rw [zak1 l h hn]
     cases rdLeg a <;> rfl
theorem zak2:∀ (l:List ByteArray) (gs:List Lg),rdLegs l=some gs→gs.length=l.length
 | [],gs,h=>by simp only [rdLegs,Option.some.injEq] at h;subst h;rfl
 | a :: l,gs,h=>by
   rw [rdLegs] at h
   cases ha:rdLeg a with
   | none=>rw [ha] at h;cases h
   | some g =>
     rw [ha] at h;simp only at h
     cases hl:rdLegs l with
     | none=>rw [hl] at h;cases h
     | some m =>
       rw [hl] at h;simp only [Option.some.injEq] at h;subst h
       simp [zak2 l m hl]
theorem zatn {t:ByteArray} {g:Lg} (h:rdLegD t=(g,true)):rdLeg t=some g:=by
 unfold rdLegD at h
 cases hr:rdLeg t with
 | none=>rw [hr] at h;simp at h
 | some g'=>rw [hr] at h;simp only [Prod.mk.injEq,and_true] at h;rw [h]
theorem zarw {t:ByteArray} {g:Lg} (h:rdLegD t=(g,false)):rdLeg t=none:=by
 unfold rdLegD at h
 cases hr:rdLeg t with
 | none=>rfl
 | some g'=>rw [hr] at h;simp at h
theorem zau7 (s t:ByteArray) (ht:t ∈ (cutB 59 s).tail) (h:rdLeg t=none):rdSvD s=(zeroSv,false):=by
 unfold rdSvD rdSv candS;rw [zak1 _ ht h]
theorem zadp {B:Nat} {w w':World} (h:Below B w w') {X:Nat} (hX:B≤X) (a b:Value):Below B w ((w'.setCell ⟨X,0,none⟩ a).setCell ⟨X,1,none⟩ b) :=
 (h.setCell (p:=⟨X,0,none⟩) hX a).setCell (p:=⟨X,1,none⟩) hX b
set_option maxHeartbeats 4000000
set_option maxRecDepth 100000
theorem zau8 {c:UInt8} {s:ByteArray} (h:c ∉ s.data.toList):cutB c s=[s]:=by
 unfold cutB;rw [zabb h];simp [zacd]
theorem zaw5 {c:UInt8} {s p r:ByteArray} (h:s.data.toList=p.data.toList ++ c :: r.data.toList) (hp:c ∉ p.data.toList):cutB c s=p :: cutB c r:=by
 unfold cutB;rw [h,zaaz _ hp,List.map_cons,zacd]
def CutOut (c:UInt8) (s:ByteArray) (w:World) (e:Ending) (w':World):Prop :=
 ∃ (t r:ByteArray) (m:Bool),e=.returned (.tuple #[.string t,.string r,.bool m])∧Hid (cutB c s=t :: (if m then cutB c r else []))∧t.size≤s.size∧r.size≤s.size∧(m=true→t.size+1+r.size=s.size)∧(m=false→t=s)∧Below w.heap.size w w'
theorem zaic (c:UInt8) (s:ByteArray) (w:World) (hs:s.size≤1048576) (hw:Lby w):Calls Tryz.prog 46 #[.string s,.string ⟨#[c]⟩] w (CutOut c s w):=by
 rcases zaqj c s with h|⟨p,r,e,hp⟩
 · refine (zaju c w hs h hw).mono fun e w' ⟨he,hb⟩=>⟨s,⟨#[]⟩,false,he,Lib.hid ?_,Nat.le_refl _,Nat.zero_le _,fun h=>(by cases h),fun _=>rfl,hb⟩
   rw [zau8 h];rfl
 · have:=zaeg e
   refine (zae8 c w hs e hp hw).mono fun e1 w' ⟨he,hb⟩=>⟨p,r,true,he,Lib.hid ?_,by omega,by omega,fun _=>this,fun h=>(by cases h),hb⟩
   rw [zaw5 e hp];rfl
theorem zaw6 (s:ByteArray) (h:atoF (nth (cutB 59 s) 0)=none):rdSvD s=(zeroSv,false):=by
 unfold rdSvD
 rw [zash fun x hx e=>?_]
 subst e;rw [zad5 hx] at h;have hr:=svOk_iff.1 hx;rw [show nth (itoaB x.st :: x.legs.map legB) 0=itoaB x.st from rfl,zacj qO] at h
 cases h
theorem zaw7 (s:ByteArray) (h:9<(cutB 59 s).tail.length):rdSvD s=(zeroSv,false):=by
 unfold rdSvD
 rw [zash fun x hx e=>?_]
 subst e;rw [zad5 hx] at h;have hr:=svOk_iff.1 hx
 simp at h
 omega
theorem zaw8 (s:ByteArray) (gs:List Lg) (v:Int) (h:rdLegs (cutB 59 s).tail=some gs) (h2:atoF (nth (cutB 59 s) 0)=some v):rdSvD s=if surveyB ⟨v,gs⟩=s then (⟨v,gs⟩,true) else (zeroSv,false):=by
 have h0:s.size≠0:=by
  intro e;have:s=⟨#[]⟩:=ByteArray.ext (Array.ext' (by simpa using List.eq_nil_of_length_eq_zero (show s.data.toList.length=0 from e)));subst this
  cases h2
 have hc:=zavc (s:=s) (g:=⟨v,gs⟩) fun x hx e=>by
  subst e;have hr:=svOk_iff.1 hx;rw [zad5 hx] at h h2
  rw [List.tail_cons,zagc _ (fun g hg=>zajt hx hg)] at h
  rw [show nth (itoaB x.st :: x.legs.map legB) 0=itoaB x.st from rfl,zacj qO] at h2;obtain ⟨a,b⟩:=x;simp only [Option.some.injEq] at h h2;rw [h,h2]
 unfold rdSvD
 by_cases hl:surveyB ⟨v,gs⟩=s
 · rw [hc,if_pos ⟨hl,h0⟩,if_pos hl]
 · rw [hc,if_neg (fun h=>hl h.1),if_neg hl]
def meaR (r m:Value):Nat:=match r,m with
 | .string r,.bool true=>r.size+1
 | _,_=>0
theorem zal5 (s:ByteArray) (w:World) (hs:s.size≤1048576) (hw:Lby w):Calls Tryz.prog 47 #[.string s] w (SvOut (rdSvD s) w):=by
 have i1:=fun w hw=>zaic 59 s w hs hw
 have HB0:=Lib.hid (zaw6 s);have HBM:=Lib.hid (zaw7 s);have HB:=Lib.hid (zau7 s)
 have HC:=Lib.hid (fun gs v=>zaw8 s gs v)
 go_enter Tryz.func47,Tryz.ntmps47
 go_wp2_with fail;obtain ⟨X,hX⟩:=qN (w.heap.size);obtain ⟨W0,hW0⟩:=qM (w.alloc (.cells #[.int .i64 0,.slice none 0 0] 25))
 have F0:At W0 X [.int .i64 0,.slice none 0 0]:=by rw [hW0];exact At.new _ _ _ hX.symm rfl
 have b0:Below w.heap.size w W0:=by rw [hW0];exact qBl
 rw [hX,← hW0];clear hW0;refine (i1 _ (hw.below b0)).mono ?_;rintro e w1 ⟨t0,r0,m0,rfl,HW,hz1,hz2,_,_,b1⟩;replace F0:=F0.below b1;replace b0:=b0.trans (b1.mono b0.size);clear b1 i1
 have e1:(cutB 59 s).tail=if m0 then cutB 59 r0 else []:=by rw [HW.out];rfl
 have e2:nth (cutB 59 s) 0=t0:=by rw [HW.out];rfl
 rw [e2] at HB0 HC;obtain ⟨wt,hwt⟩:=qM ((cutB 59 s).tail);rw [← hwt] at e1 HBM HB HC;have HE:=Lib.hid e1;clear e1 e2 hwt HW
 cases ha:atoF t0 with
 | none =>
   have HD:=Lib.hid (HB0.out ha)
   have i2:=fun w hw=>zagm ha w qO hw
   clear ha HB0 HBM HB HC HE;go_wp2_with fail;refine (i2 _ (hw.below b0)).mono ?_;rintro e w2 ⟨v,te,pe,rfl,b2⟩;replace F0:=F0.below b2;replace b0:=b0.trans (b2.mono b0.size);clear b2 i2;obtain ⟨r,f0,f1,rf⟩:=F0.facts2;go_wp2_with fail;refine bodyPost_ret (v:=.tuple #[.agg #[.int .i64 0,.slice none 0 0],.bool false]) (by simp [results,Tryz.results47,go_sem,r,f0,f1]) rfl ?_;rw [HD.out]
   exact ⟨_,rfl,KOwn.nil,zadp b0 qO _ _⟩
 | some v =>
   have i2:=fun w=>zae9 ha w qO
   have HCv:=Lib.hid (fun gs (h:rdLegs wt=some gs)=>HC.out gs v h ha)
   clear ha HB0 HC;go_wp2_with fail;refine (i2 _).mono ?_;rintro e w2 ⟨rfl,b2⟩;replace F0:=F0.below b2;replace b0:=b0.trans (b2.mono b0.size);clear b2 i2;go_wp2_with fail;obtain ⟨Y,hY⟩:=qN (w2.heap.size);obtain ⟨V,hV⟩:=qM (w2.alloc (.cells #[.int .i64 v,.slice none 0 0] 25))
   have A0:At V Y [.int .i64 v,.slice none 0 0]:=by rw [hV];exact At.new _ _ _ hY.symm rfl
   have bV:Below w2.heap.size w2 V:=by rw [hV];exact qBl
   rw [hY,← hV]
   have hXY:X≠Y:=by have:=F0.lt;omega
   have hwY:w.heap.size≤Y:=by have:=b0.size;omega
   replace F0:=F0.below bV;replace b0:=b0.trans (bV.mono b0.size);clear bV hV hY;have hXB:=F0.lt;have hYB:=A0.lt;obtain ⟨B,hB⟩:=qN (V.heap.size);rw [hB] at hXB hYB;have hwB:w.heap.size≤B:=qO;have hBV:B≤V.heap.size:=qO;clear hB
   go_loopw [5,6] (fun rest more wr=>∃ (m:Bool) (r:ByteArray) (ps:List ByteArray) (gs:List Lg) (av:Option Addr) (cv:Nat),more=.bool m∧rest=.string r∧Hid (wt=ps ++ (if m then cutB 59 r else []))∧Hid (rdLegs ps=some gs)∧gs.length≤9∧r.size≤1048576∧At wr X [.int .i64 0,.slice none 0 0]∧At wr Y [.int .i64 v,.slice av gs.length cv]∧OwnL wr B (.slice av gs.length cv) gs∧B≤wr.heap.size∧Below w.heap.size w wr) (fun rest more _=>meaR rest more)
   case atStart=>exact ⟨m0,r0,[],[],none,0,rfl,rfl,HE,Lib.hid rfl,by simp,by omega,F0,A0,KOwn.nil,hBV,b0⟩
   case round =>
    obtain ⟨m,r,ps,gs,av,cv,rfl,rfl,HP,HG,hg9,hr,F,A,ho,hBr,hb⟩:=hrel;clear F0 A0 b0 hBV HE
    cases m with
    | true =>
      have i3:=fun w hw=>zaic 59 r w hr hw
      go_wp2_with fail;refine (i3 _ (hw.below hb)).mono ?_;rintro e w3 ⟨t,r',m',rfl,HK,k1,k2,k3,k4,b3⟩;replace F:=F.below b3;replace A:=A.below b3;replace ho:=ho.below b3;replace hb:=hb.trans (b3.mono hb.size);replace hBr:=Nat.le_trans hBr b3.size;clear b3 i3
      have e3:wt=(ps ++ [t]) ++ (if m' then cutB 59 r' else []):=by
       have:=HP.out;rw [if_pos trivial,HK.out] at this;rw [this];simp
      have HP2:=Lib.hid e3;clear e3 HP HK
      have i4:=fun w hw=>zai5 t w qO hw
      have HX:=Lib.hid (fun g (hg:rdLegD t=(g,true))=>show rdLegs (ps ++ [t])=some (gs ++ [g]) by rw [zai7 _ _ _ HG.out,zatn hg])
      have HBx:=Lib.hid (fun g (hg:rdLegD t=(g,false))=>HB.out t (by rw [HP2.out];simp) (zarw hg))
      have HMx:=Lib.hid (fun (h:gs.length=9)=>HBM.out (by
       have h1:=zak2 _ _ HG.out
       rw [HP2.out];simp;omega))
      clear HG;obtain ⟨pr,hpr⟩:=qN (rdLegD t);rw [hpr] at i4 HX HBx;clear hpr;obtain ⟨⟨g1,g2,g3,g4,g5⟩,gb⟩:=pr;go_wp2_with fail;refine (i4 _ (hw.below hb)).mono ?_;rintro e w8 ⟨rfl,b8⟩;replace F:=F.below b8;replace A:=A.below b8;replace ho:=ho.below b8;replace hb:=hb.trans (b8.mono hb.size);replace hBr:=Nat.le_trans hBr b8.size;clear b8 i4;simp only;obtain ⟨fr,f0,f1,rf⟩:=id F.facts2;obtain ⟨y,y0,y1,yf⟩:=id A.facts2
      cases gb with
      | false =>
        have HD:=Lib.hid (HBx.out _ rfl);clear HBx HX A HMx;go_wp2_with fail;refine bodyPost_ret (v:=.tuple #[.agg #[.int .i64 0,.slice none 0 0],.bool false]) (by simp [results,Tryz.results47,go_sem,fr,f0,f1]) rfl ?_;rw [HD.out]
        exact ⟨_,rfl,KOwn.nil,(zadp hb qO _ _).alloc (zadp hb qO _ _).size _⟩
      | true =>
        have HD:=Lib.hid (HX.out _ rfl);clear HBx HX
        by_cases h9:gs.length=9
        · have HD2:=Lib.hid (HMx.out h9)
          clear HMx A HD;have h9i:(gs.length:Int)=9:=qO;go_wp2_with fail;refine bodyPost_ret (v:=.tuple #[.agg #[.int .i64 0,.slice none 0 0],.bool false]) (by simp [results,Tryz.results47,go_sem,fr,f0,f1]) rfl ?_;rw [HD2.out]
          exact ⟨_,rfl,KOwn.nil,(zadp hb qO _ _).alloc (zadp hb qO _ _).size _⟩
        · clear HMx
          have h9i:¬ (gs.length:Int)=9:=qO;have hgl2:gs.length≤1048576:=qO
          go_wp2_with (at_builtin;refine zaaj legI _ _ rfl rfl B _ gs [⟨g1,g2,g3,g4,g5⟩] (some ⟨w8.heap.size+1,0,none⟩) 1 rfl ((ho.alloc _).alloc _) rfl (by have h:=zaw4 (w8.alloc (.cells #[.int .i64 g1,.int .i64 g2,.int .i64 g3,.int .i64 g4,.int .i64 g5] 75)) g1 g2 g3 g4 g5 75;simpa using h) qO qP (by simp;omega) ?_;rintro av5 cv5 w5 o5 - b5 -;have A5:=((A.alloc (.cells #[.int .i64 g1,.int .i64 g2,.int .i64 g3,.int .i64 g4,.int .i64 g5] 75)).alloc (.cells #[.int .i64 g1,.int .i64 g2,.int .i64 g3,.int .i64 g4,.int .i64 g5] 75)).belowB b5 hYB;obtain ⟨q,q0,q1,qf⟩:=id A5.facts2)
          have hs8:w8.heap.size≤w5.heap.size:=Nat.le_trans (by simp;omega) b5.size;have F5:=((F.alloc (.cells #[.int .i64 g1,.int .i64 g2,.int .i64 g3,.int .i64 g4,.int .i64 g5] 75)).alloc (.cells #[.int .i64 g1,.int .i64 g2,.int .i64 g3,.int .i64 g4,.int .i64 g5] 75)).belowB b5 hXB;have hb5:Below w.heap.size w w5:=((hb.alloc hb.size (.cells #[.int .i64 g1,.int .i64 g2,.int .i64 g3,.int .i64 g4,.int .i64 g5] 75)).alloc (hb.alloc hb.size (.cells #[.int .i64 g1,.int .i64 g2,.int .i64 g3,.int .i64 g4,.int .i64 g5] 75)).size (.cells #[.int .i64 g1,.int .i64 g2,.int .i64 g3,.int .i64 g4,.int .i64 g5] 75)).trans (b5.mono hwB);rw [List.length_append] at o5;go_roundw
          case rel=>exact ⟨m',r',ps ++ [t],gs ++ [⟨g1,g2,g3,g4,g5⟩],av5,cv5,rfl,rfl,HP2,HD,by simp;omega,by omega,F5.setOther hXY _,by rw [List.length_append];exact A5.set 1 _,by rw [List.length_append];exact o5.setCell hYB _,by simp [World.setCell];omega,hb5.setCell (by show w.heap.size≤Y;exact hwY) _⟩
          case measure =>
           cases m' with
           | true=>have:=k3 rfl;simp [meaR];omega
           | false=>simp [meaR]
    | false =>
      have HG2:=Lib.hid (show rdLegs wt=some gs by have h:=HP.out;rw [if_neg (by decide),List.append_nil] at h;rw [h];exact HG.out);have HD:=Lib.hid (HCv.out gs HG2.out);clear HG HG2 HB HBM HP HCv;have hgl2:gs.length≤1048576:=qO
      have it:=fun a c w h hp=>zaeh a c v gs w hgl2 h hp
      obtain ⟨L,hL⟩:=qM (surveyB ⟨v,gs⟩);simp only [← hL] at it HD;clear hL;obtain ⟨fr,f0,f1,rf⟩:=id F.facts2;obtain ⟨y,y0,y1,yf⟩:=id A.facts2;go_wp2_with fail;refine (it _ _ _ ho.kr (hw.below hb).pow).mono ?_;rintro e w9 ⟨rfl,b9⟩;replace F:=F.below b9;replace A:=A.below b9;replace ho:=ho.below b9;replace hb:=hb.trans (b9.mono hb.size);clear b9 it y y0 y1 yf fr f0 f1 rf;obtain ⟨fr,f0,f1,rf⟩:=id F.facts2;obtain ⟨y,y0,y1,yf⟩:=id A.facts2;have hne:=zaca L s
      by_cases hLs:L=s
      · rw [if_pos hLs] at HD
        subst hLs;simp only [decide_true,Bool.not_true] at hne;go_wp2_with fail;refine bodyPost_ret (v:=.tuple #[.agg #[.int .i64 v,.slice av gs.length cv],.bool true]) (by simp [results,Tryz.results47,go_sem,fr,f0,f1]) rfl ?_;rw [HD.out]
        exact ⟨_,rfl,((ho.setCell (p:=⟨X,0,none⟩) hXB _).setCell (p:=⟨X,1,none⟩) hXB _).mono hwB,zadp hb qO _ _⟩
      · rw [if_neg hLs] at HD
        rw [decide_eq_false hLs,Bool.not_false] at hne
        have hne2:¬ L.toList=s.toList:=by rw [zaco];exact hLs
        have hne3:(L.toList == s.toList)=false:=by simpa using hne2
        clear hLs;go_wp2_with fail;refine bodyPost_ret (v:=.tuple #[.agg #[.int .i64 0,.slice none 0 0],.bool false]) (by simp [results,Tryz.results47,go_sem,fr,f0,f1]) rfl ?_;rw [HD.out]
        exact ⟨_,rfl,KOwn.nil,zadp hb qO _ _⟩
end Go.Proofs.YthfoloefkfadlaaGreatDoor
