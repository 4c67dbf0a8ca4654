/- Plain law of the readings: what stands between separators, numbers read back, legs read back. -/
import Derived.Test.YthfoloefkfadlaaGreatDoorT1
import Derived.Test.YthfoloefkfadlaaGreatDoorK1
import Derived.Lib.SplitLaws
import Derived.Lib.CutLaws
import Derived.Lib.AtoiAll
import Derived.Test.YthfoloefkfadlaaGreatDoorK3
import Derived.Deep.RegionHeld3
import Derived.Deep.DeepCutAuto
set_option linter.unusedSimpArgs false
set_option linter.unusedVariables false
namespace Go.Proofs.YthfoloefkfadlaaGreatDoor
open Go Go.RowKit
def cutL (sep:UInt8):List UInt8→List (List UInt8)
 | []=>[[]]
 | c :: r=>if c=sep then [] :: cutL sep r else match cutL sep r with
   | []=>[[c]]
   | p :: ps=>(c :: p) :: ps
theorem zabb {sep:UInt8}:∀ {p:List UInt8},sep ∉ p→cutL sep p=[p]
 | [],_=>rfl
 | c :: r,h=>by
   have h1:¬ c=sep:=fun e=>h (by simp [e])
   have h2:sep ∉ r:=fun e=>h (by simp [e])
   rw [cutL,if_neg h1,zabb h2]
theorem zaaz {sep:UInt8} (r:List UInt8):∀ {p:List UInt8},sep ∉ p→cutL sep (p ++ sep :: r)=p :: cutL sep r
 | [],_=>by simp [cutL]
 | c :: q,h=>by
   have h1:¬ c=sep:=fun e=>h (by simp [e])
   have h2:sep ∉ q:=fun e=>h (by simp [e])
   rw [List.cons_append,cutL,if_neg h1,zaaz r h2]
def digF (n:Int):List UInt8→Int
 | []=>n
 | c :: r=>if c.toNat<48∨57<c.toNat then -1 else digF (10*n+((c.toNat:Int) - 48)) r
def digL (l:List UInt8):Int:=if l.length<1∨4<l.length∨(1<l.length∧l.head?=some 48) then -1 else digF 0 l
def rdL (l:List UInt8):Int:=if 1<l.length∧l.head?=some 45∧0<digL l.tail then -digL l.tail else if digL l<0 then 9999 else digL l
theorem zaya:∀ k:Fin 199,rdL (Lib.itoa ((k.val:Int) - 99))=(k.val:Int) - 99:=by decide +kernel
theorem zaqb:∀ k:Fin 199,∀ c ∈ Lib.itoa ((k.val:Int) - 99),c=45∨(48≤c.toNat∧c.toNat≤57):=by decide +kernel
theorem zaf2 {n:Int} (h : -99≤n∧n≤99):∃ k:Fin 199,n=(k.val:Int) - 99:=⟨⟨(n+99).toNat,by omega⟩,by show n=(((n+99).toNat:Nat):Int) - 99;omega⟩
theorem zado {n:Int} (h : -99≤n∧n≤99):rdL (Lib.itoa n)=n:=by
 obtain ⟨k,rfl⟩:=zaf2 h
 exact zaya k
theorem zact {n:Int} (h : -99≤n∧n≤99) {c:UInt8} (h1:c≠45) (h2:c.toNat<48∨57<c.toNat):c ∉ Lib.itoa n:=by
 obtain ⟨k,rfl⟩:=zaf2 h;intro hc
 rcases zaqb k c hc with h|h
 · exact h1 h
 · omega
def candL (s:List UInt8):Option Lg :=
 match cutL 58 s with
 | [a,b]=>match cutL 62 a,cutL 44 b with
   | [f,t],[e,n,u]=>some ⟨rdL f,rdL t,rdL e,rdL n,rdL u⟩
   | _,_=>none
 | _=>none
theorem zaep {g:Lg} (h:legOk 6 g=true):(legB g).data.toList=(Lib.itoa g.frm ++ 62 :: Lib.itoa g.to) ++ 58 :: (Lib.itoa g.east ++ 44 :: (Lib.itoa g.north ++ 44 :: Lib.itoa g.up)):=by
 unfold legB wayB itoaB;rw [if_pos h]
 simp
theorem zatj {g:Lg} (h:legOk 6 g=true):candL (legB g).data.toList=some g:=by
 obtain ⟨hr1,hr2,hr3,hr4,hr5⟩:=zaaq qO h;have g1 : -99≤g.frm∧g.frm≤99:=qO;have g2 : -99≤g.to∧g.to≤99:=qO
 have n58:∀ {n:Int},-99≤n∧n≤99→(58:UInt8) ∉ Lib.itoa n:=fun h=>zact h (by decide) (by decide)
 have n62:∀ {n:Int},-99≤n∧n≤99→(62:UInt8) ∉ Lib.itoa n:=fun h=>zact h (by decide) (by decide)
 have n44:∀ {n:Int},-99≤n∧n≤99→(44:UInt8) ∉ Lib.itoa n:=fun h=>zact h (by decide) (by decide)
 have e1:cutL 58 (legB g).data.toList=[Lib.itoa g.frm ++ 62 :: Lib.itoa g.to,Lib.itoa g.east ++ 44 :: (Lib.itoa g.north ++ 44 :: Lib.itoa g.up)]:=by
  rw [zaep h,zaaz _ (by simp [n58 g1,n58 g2]),zabb (by simp [n58 hr3,n58 hr4,n58 hr5])]
 have e2:cutL 62 (Lib.itoa g.frm ++ 62 :: Lib.itoa g.to)=[Lib.itoa g.frm,Lib.itoa g.to]:=by rw [zaaz _ (n62 g1),zabb (n62 g2)]
 have e3:cutL 44 (Lib.itoa g.east ++ 44 :: (Lib.itoa g.north ++ 44 :: Lib.itoa g.up))=[Lib.itoa g.east,Lib.itoa g.north,Lib.itoa g.up]:=by
  rw [zaaz _ (n44 hr3),zaaz _ (n44 hr4),zabb (n44 hr5)]
 unfold candL;rw [e1];simp only [e2,e3];rw [zado g1,zado g2,zado hr3,zado hr4,zado hr5]
open Go Go.RowKit Go.Sort
theorem zah7 (s:ByteArray) (w:World) :
 Calls Tryz.prog 141 #[.string s] w fun e w'=>e=.returned (.int .i64 (digL s.data.toList))∧w=w':=by
 have hlen:s.data.toList.length=s.size:=rfl
 by_cases h1:s.size<1∨4<s.size
 · have hin:inB (s.size:Int) 1 4=false:=by simp [inB];omega
   have hL:digL s.data.toList = -1:=by
    unfold digL;rw [if_pos]
    omega
   have HL:=Lib.hid hL;clear hL
   go_enter Tryz.func141,Tryz.ntmps141
   go_wp2_with (go_at_call 85;refine (zaac _ _ _ _).mono ?_;rintro e w' ⟨rfl,rfl⟩)
   go_ret
   exact ⟨by rw [HL.out];first|done|rfl,rfl⟩
 have hin:inB (s.size:Int) 1 4=true:=by simp [inB];omega
 by_cases h3:1<s.size∧s.data.toList.head?=some 48
 · obtain ⟨h2,h3⟩:=h3
   have h0:0<s.size:=qO
   have hc:s[0]=48:=by
    have:s.data.toList.head?=some s[0]:=by
     rw [List.head?_eq_getElem?,List.getElem?_eq_getElem qO];rfl
    rw [this] at h3;exact Option.some.inj h3
   have hL:digL s.data.toList = -1:=by
    unfold digL;rw [if_pos (.inr (.inr ⟨by omega,h3⟩))]
   have HL:=Lib.hid hL;clear hL h3 hlen
   go_enter Tryz.func141,Tryz.ntmps141
   go_wp2_with (go_at_call 85;refine (zaac _ _ _ _).mono ?_;rintro e w' ⟨rfl,rfl⟩)
   go_ret
   exact ⟨by rw [HL.out];first|done|rfl,rfl⟩
 have hL:digL s.data.toList=digF 0 s.data.toList:=by
  unfold digL;rw [if_neg];rw [hlen];intro h
  rcases h with h|h|h
  · omega
  · omega
  · exact h3 h
 have HL:=Lib.hid hL;have h0:0<s.size:=qO;have h4:s.size≤4:=qO
 have key:1<s.size→(s[0].toNat:Int)≠48:=fun h e=>by
  apply h3
  refine ⟨h,?_⟩
  have:s.data.toList.head?=some s[0]:=by
   rw [List.head?_eq_getElem?,List.getElem?_eq_getElem qO];rfl
  rw [this]
  congr 1
  apply UInt8.toNat_inj.1
  show s[0].toNat=48
  omega
 have hdrop:∀ j (hj:j<s.size),s.data.toList.drop j=s[j] :: s.data.toList.drop (j+1):=fun j hj=>by
  rw [List.drop_eq_getElem_cons qO];rfl
 have HDR:=Lib.hid hdrop;clear hL h3 hdrop;obtain ⟨D,hD⟩:=qM (s.data.toList);rw [← hD] at HL HDR hlen ⊢;have hend:D.drop s.size=[]:=List.drop_eq_nil_of_le qO;have HE:=Lib.hid hend;clear hend hD hlen
 by_cases h2:1<s.size
 all_goals
  first
   | have k3:=key h2
     have k4:¬ s[0].toNat=48:=qO;clear key
   | clear key
  go_enter Tryz.func141,Tryz.ntmps141
  go_wp2_with (go_at_call 85;refine (zaac _ _ _ _).mono ?_;rintro e w' ⟨rfl,rfl⟩)
  go_loopw [3,4] (fun n k wr=>∃ (j:Nat) (v:Int),j≤s.size∧n=.int .i64 v∧k=.int .i64 j∧Hid (digF 0 D=digF v (D.drop j))∧0≤v∧v+1≤(10:Int) ^ j∧w=wr) (fun _ k _=>s.size - (intOf k).toNat)
  case atStart=>exact ⟨0,0,by omega,rfl,rfl,rfl,by omega,by decide,rfl⟩
  case round =>
   obtain ⟨j,v,hj,rfl,rfl,HR,hv0,hv1,rfl⟩:=hrel
   by_cases hlt:j<s.size
   · have hP:(10:Int) ^ j≤1000:=by
      have:j=0∨j=1∨j=2∨j=3:=qO
      rcases this with rfl|rfl|rfl|rfl <;> decide
     have hP2:(10:Int) ^ (j+1)=10 ^ j*10:=Int.pow_succ ..;have hd:=HDR.out j hlt;obtain ⟨c,hc⟩:=qN (s[j].toNat);obtain ⟨P,hPP⟩:=qM ((10:Int) ^ j);rw [← hPP] at hP hP2 hv1;clear hPP
     by_cases hbad:c<48∨57<c
     · have hF:digF v (D.drop j) = -1:=by rw [hd];unfold digF;rw [if_pos qO]
       have HF:=Lib.hid hF;clear hF hd hP hP2
       by_cases hlo:(c:Int)<48
       · go_wp2
         go_ret
         exact ⟨by rw [HL.out,HR.out,HF.out];first|done|rfl,rfl⟩
       · have hhi:(57:Int)<c:=by omega
         go_wp2
         go_ret
         exact ⟨by rw [HL.out,HR.out,HF.out];first|done|rfl,rfl⟩
     · have hF:digF v (D.drop j)=digF (10*v+((c:Int) - 48)) (D.drop (j+1)):=by rw [hd];rw [digF,hc,if_neg hbad]
       have HF:=Lib.hid hF;have hlo:¬ (c:Int)<48:=qO;have hhi:¬ (57:Int)<c:=qO
       have w1:IntKind.u8.wrap ((c:Int) - 48)=(c:Int) - 48:=by rw [IntKind.wrap_u8];omega
       have w2:IntKind.i64.wrap (10*v)=10*v:=by rw [IntKind.wrap_i64];omega
       have w3:IntKind.i64.wrap (10*v+((c:Int) - 48))=10*v+((c:Int) - 48):=by rw [IntKind.wrap_i64];omega
       have w4:IntKind.i64.wrap ((c:Int) - 48)=(c:Int) - 48:=by rw [IntKind.wrap_i64];omega
       clear hF hd
       go_wp2
       go_roundw
       case rel=>exact ⟨j+1,10*v+((c:Int) - 48),by omega,rfl,by go_num,by show _=_;rw [HR.out,HF.out],by omega,by rw [hP2];omega,by first|rfl|trivial⟩
       case measure=>simp [intOf];omega
   · obtain rfl:j=s.size:=by omega
     go_wp2
     go_ret
     exact ⟨by rw [HL.out,HR.out,HE.out];first|done|rfl,rfl⟩
set_option maxRecDepth 100000
theorem zak3:∀ (l:List UInt8) (v:Int),0≤v→-1≤digF v l∧digF v l+1≤(v+1)*10 ^ l.length
 | [],v,h=>by simp [digF];omega
 | c :: r,v,h=>by
   have hp:(1:Int)≤10 ^ (c :: r).length:=by exact_mod_cast Nat.one_le_pow _ _ (by decide)
   rw [digF]
   split
   · refine ⟨by omega,?_⟩
     have:(0:Int)≤(v+1)*10 ^ (c :: r).length:=Int.mul_nonneg qO qO
     omega
   · have ih:=zak3 r (10*v+((c.toNat:Int) - 48)) qO
     refine ⟨ih.1,Int.le_trans ih.2 ?_⟩
     have hq:(0:Int)≤10 ^ r.length:=by
      have:(1:Int)≤10 ^ r.length:=by exact_mod_cast Nat.one_le_pow _ _ (by decide)
      omega
     have e:(v+1)*10 ^ (c :: r).length=((v+1)*10)*10 ^ r.length:=by
      rw [List.length_cons,Int.pow_succ,Int.mul_comm ((10:Int) ^ r.length) 10,Int.mul_assoc]
     rw [e]
     exact Int.mul_le_mul_of_nonneg_right qO hq
theorem zae1 (l:List UInt8) : -1≤digL l∧digL l≤9999:=by
 unfold digL
 split
 · omega
 · rename_i h
   have:=zak3 l 0 qO;have hl:l.length≤4:=qO
   have hP:(10:Int) ^ l.length≤10000:=by
    have:l.length=0∨l.length=1∨l.length=2∨l.length=3∨l.length=4:=qO
    rcases this with h|h|h|h|h <;> rw [h] <;> decide
   omega
theorem zau9 (s:ByteArray):(s.extract 1 s.size).data.toList=s.data.toList.tail:=by
 rw [ByteArray.data_extract,Array.toList_extract,List.extract_eq_take_drop]
 show (s.data.toList.drop 1).take (s.size - 1)=_
 rw [List.drop_one,List.take_of_length_le];rw [List.length_tail];exact Nat.le_refl _
theorem zab9 (s:ByteArray) (w:World) :
 Calls Tryz.prog 106 #[.string s] w fun e w'=>e=.returned (.int .i64 (rdL s.data.toList))∧w=w':=by
 have i1:=zah7 s;have i2:=zah7 (s.extract 1 s.size);rw [zau9] at i2;obtain ⟨t,ht⟩:=qN (s.extract 1 s.size);rw [ht] at i2;have hlen:s.data.toList.length=s.size:=rfl;obtain ⟨r1,r2⟩:=zae1 s.data.toList;obtain ⟨q1,q2⟩:=zae1 s.data.toList.tail;have hR:rdL s.data.toList=if 1<s.size∧s.data.toList.head?=some 45∧0<digL s.data.toList.tail then -digL s.data.toList.tail else if digL s.data.toList<0 then 9999 else digL s.data.toList:=rfl
 have hh:∀ h:0<s.size,s.data.toList.head?=some s[0]:=fun h=>by
  rw [List.head?_eq_getElem?,List.getElem?_eq_getElem qO];rfl
 obtain ⟨p,hp⟩:=qM (digL s.data.toList);obtain ⟨q,hq⟩:=qM (digL s.data.toList.tail);rw [← hp] at i1 hR r1 r2;rw [← hq] at i2 hR q1 q2;obtain ⟨R,hRR⟩:=qM (rdL s.data.toList);rw [← hRR] at hR ⊢;clear hp hq hRR hlen
 have rest:(R=if p<0 then 9999 else p)→(¬ 1<s.size∨(∃ h:0<s.size,¬ s[0]=45)∨q≤0)→Calls Tryz.prog 106 #[.string s] w fun e w'=>e=.returned (.int .i64 R)∧w=w':=by
  intro hR2 hcase
  by_cases hp0:p<0
  · rw [if_pos hp0] at hR2
    by_cases h1:1<s.size
    · by_cases h2:s[0]=45
      · have h3:q≤0:=by
         rcases hcase with h|⟨_,h⟩|h
         · exact absurd h1 h
         · exact absurd h2 h
         · exact h
        clear hcase hR hh;subst hR2
        go_enter Tryz.func106,Tryz.ntmps106
        go_wp2_with (go_at_call 141;(first|with_reducible refine (i2 _).mono ?_|with_reducible refine (i1 _).mono ?_);rintro e w' ⟨rfl,rfl⟩)
        go_ret
        exact ⟨rfl,rfl⟩
      · have h3:¬ s[0].toNat=45:=fun e=>h2 (UInt8.toNat_inj.1 e)
        clear hcase hR hh;subst hR2
        go_enter Tryz.func106,Tryz.ntmps106
        go_wp2_with (go_at_call 141;(first|with_reducible refine (i2 _).mono ?_|with_reducible refine (i1 _).mono ?_);rintro e w' ⟨rfl,rfl⟩)
        go_ret
        exact ⟨rfl,rfl⟩
    · clear hcase hR hh
      subst hR2
      go_enter Tryz.func106,Tryz.ntmps106
      go_wp2_with (go_at_call 141;(first|with_reducible refine (i2 _).mono ?_|with_reducible refine (i1 _).mono ?_);rintro e w' ⟨rfl,rfl⟩)
      go_ret
      exact ⟨rfl,rfl⟩
  · rw [if_neg hp0] at hR2
    by_cases h1:1<s.size
    · by_cases h2:s[0]=45
      · have h3:q≤0:=by
         rcases hcase with h|⟨_,h⟩|h
         · exact absurd h1 h
         · exact absurd h2 h
         · exact h
        clear hcase hR hh;subst hR2
        go_enter Tryz.func106,Tryz.ntmps106
        go_wp2_with (go_at_call 141;(first|with_reducible refine (i2 _).mono ?_|with_reducible refine (i1 _).mono ?_);rintro e w' ⟨rfl,rfl⟩)
        go_ret
        exact ⟨rfl,rfl⟩
      · have h3:¬ s[0].toNat=45:=fun e=>h2 (UInt8.toNat_inj.1 e)
        clear hcase hR hh;subst hR2
        go_enter Tryz.func106,Tryz.ntmps106
        go_wp2_with (go_at_call 141;(first|with_reducible refine (i2 _).mono ?_|with_reducible refine (i1 _).mono ?_);rintro e w' ⟨rfl,rfl⟩)
        go_ret
        exact ⟨rfl,rfl⟩
    · clear hcase hR hh
      subst hR2
      go_enter Tryz.func106,Tryz.ntmps106
      go_wp2_with (go_at_call 141;(first|with_reducible refine (i2 _).mono ?_|with_reducible refine (i1 _).mono ?_);rintro e w' ⟨rfl,rfl⟩)
      go_ret
      exact ⟨rfl,rfl⟩
 by_cases h1:1<s.size
 · by_cases h2:s[0]=45
   · by_cases h3:0<q
     · rw [if_pos ⟨h1,by rw [hh qO,h2],h3⟩] at hR
       clear rest hh;subst hR
       go_enter Tryz.func106,Tryz.ntmps106
       go_wp2_with (go_at_call 141;(first|with_reducible refine (i2 _).mono ?_|with_reducible refine (i1 _).mono ?_);rintro e w' ⟨rfl,rfl⟩)
       go_ret
       exact ⟨rfl,rfl⟩
     · exact rest (by rw [hR,if_neg (fun h=>h3 h.2.2)]) (.inr (.inr qO))
   · exact rest (by rw [hR,if_neg];rintro ⟨-,h,-⟩;rw [hh qO] at h;exact h2 (Option.some.inj h)) (.inr (.inl ⟨by omega,h2⟩))
 · exact rest (by rw [hR,if_neg (fun h=>h1 h.1)]) (.inl h1)
set_option maxHeartbeats 1000000
def strK:Kind ByteArray where
 sz:=1
 cells s:=[.string s]
 len _:=rfl
 one _ u hu:=by simp only [List.mem_cons,List.not_mem_nil,or_false] at hu;subst hu;rfl
abbrev Strs:=KRd strK
abbrev OwnT (w:World) (B:Nat) (v:Value) (l:List ByteArray):Prop:=KOwn strK 9 w B v l
theorem zasg:(Tryz.prog.info? 9).map (fun i=>(i.zero,i.size,i.bytes))=some (some (.string ByteArray.empty),1,16):=by kernel_rfl
theorem strI:KInfo Tryz.prog strK 9 29:=by
 obtain ⟨i0,hi,hz0,hz1,hz2⟩:=info_parts zasg
 exact ⟨Tryz.underlying29,⟨i0,_,16,hi,hz0,hz1,hz2,rfl,by omega⟩,by decide⟩
theorem zaid (w:World) (x:ByteArray) (T:TypeId):Strs (w.alloc (.cells #[.string x] T)) (some ⟨w.heap.size,0,none⟩) [x]:=by
 refine KRd.mk qP fun j u hu=>?_
 have:j=0:=by
  have:=(List.getElem?_eq_some_iff.1 hu).1
  simpa [Kind.flat,strK] using this
 subst this
 have:Value.string x=u:=by simpa [Kind.flat,strK] using hu
 subst this
 simp
theorem Strs.at {w:World} {a:Option Addr} {xs:List ByteArray} (h:Strs w a xs) {k:Nat} (hk:k<xs.length) :
 ∃ b off,a=some ⟨b,off,none⟩∧b<w.heap.size∧w.cell? ⟨b,off+k,none⟩=some (.string (nth xs k)):=by
 obtain ⟨b,off,e,hb,h⟩:=Rd.at h hk
 refine ⟨b,off,e,hb,?_⟩
 have:=h k hk 0 _ rfl
 simpa [strK,Kind.lay] using this
def toB (l:List UInt8):ByteArray:=⟨l.toArray⟩
@[simp] theorem toB_list (l:List UInt8):(toB l).data.toList=l:=by simp [toB]
theorem zacd (s:ByteArray):toB s.data.toList=s:=by apply ByteArray.ext;simp [toB]
def cutB (sep:UInt8) (s:ByteArray):List ByteArray:=(cutL sep s.data.toList).map toB
theorem zal6 (sep:UInt8):∀ l,cutL sep l≠[]
 | []=>by simp [cutL]
 | c :: r=>by
   rw [cutL]
   split
   · simp
   · split <;> simp
theorem zajr (sep:UInt8):∀ l,(cutL sep l).length≤l.length+1
 | []=>by simp [cutL]
 | c :: r=>by
   have ih:=zajr sep r;rw [cutL]
   split
   · simp;omega
   · split
     · simp
     · rename_i h;rw [h] at ih;simp at ih ⊢;omega
theorem zaw9 (sep:UInt8) (s:ByteArray):(cutB sep s).length≤s.size+1:=by
 have:=zajr sep s.data.toList
 simpa [cutB] using this
theorem zag5 (sep:UInt8) (s:ByteArray):0<(cutB sep s).length:=by
 have:=zal6 sep s.data.toList;unfold cutB;rw [List.length_map]
 exact List.length_pos_iff.2 this
structure CutAt (sep:UInt8) (D:List UInt8) (xs:List ByteArray) (f k:Nat):Prop where
 le:f≤k
 no:sep ∉ (D.take k).drop f
 eq:cutL sep D=xs.map (·.data.toList) ++ cutL sep (D.drop f)
theorem CutAt.start (sep:UInt8) (D:List UInt8):CutAt sep D [] 0 0:=⟨Nat.le_refl _,by simp,by simp⟩
theorem zaxa (D:List UInt8) (f k:Nat) (h:f≤k) (hk:k≤D.length):D.drop f=(D.take k).drop f ++ D.drop k:=by
 have:D.drop f=(D.take k ++ D.drop k).drop f:=by rw [List.take_append_drop]
 rw [this,List.drop_append_of_le_length (by simp;omega)]
theorem CutAt.pass {sep:UInt8} {D:List UInt8} {xs:List ByteArray} {f k:Nat} (h:CutAt sep D xs f k) (hk:k<D.length) (hc:D[k]≠sep):CutAt sep D xs f (k+1):=by
 refine ⟨Nat.le_succ_of_le h.le,?_,h.eq⟩
 rw [List.take_succ_eq_append_getElem hk,List.drop_append_of_le_length (by simp;have:=h.le;omega)];simp only [List.mem_append,List.mem_singleton,not_or]
 exact ⟨h.no,fun e=>hc e.symm⟩
theorem CutAt.hit {sep:UInt8} {D:List UInt8} {xs:List ByteArray} {f k:Nat} (h:CutAt sep D xs f k) (hk:k<D.length) (hc:D[k]=sep):CutAt sep D (xs ++ [toB ((D.take k).drop f)]) (k+1) (k+1):=by
 refine ⟨Nat.le_refl _,by simp,?_⟩
 rw [h.eq,zaxa D f k h.le qO,List.drop_eq_getElem_cons hk,hc,zaaz _ h.no]
 simp
theorem CutAt.last {sep:UInt8} {D:List UInt8} {xs:List ByteArray} {f:Nat} (h:CutAt sep D xs f D.length):(cutL sep D).map toB=xs ++ [toB (D.drop f)]:=by
 have hn:sep ∉ D.drop f:=by have:=h.no;rwa [List.take_length] at this
 rw [h.eq,zabb hn,List.map_append,List.map_map]
 congr 1
 rw [show (toB ∘ fun s:ByteArray=>s.data.toList)=id from funext fun s=>zacd s,List.map_id]
theorem CutAt.len {sep:UInt8} {D:List UInt8} {xs:List ByteArray} {f k:Nat} (h:CutAt sep D xs f k):xs.length≤D.length:=by
 have h1:=congrArg List.length h.eq;have h2:=zajr sep D;have h3:=List.length_pos_iff.2 (zal6 sep (D.drop f))
 simp at h1
 omega
theorem zan7 (s:ByteArray) (f k:Nat):s.extract f k=toB ((s.data.toList.take k).drop f):=by
 apply ByteArray.ext
 apply Array.ext'
 simp [toB,List.drop_take,List.extract_eq_take_drop]
theorem zaeq (s:ByteArray) (c:UInt8) (w:World) (hs:s.size≤1048576) :
 Calls Tryz.prog 104 #[.string s,.int .u8 c.toNat] w fun e w'=>∃ a cp,e=.returned (.slice a (cutB c s).length cp)∧OwnT w' w.heap.size (.slice a (cutB c s).length cp) (cutB c s)∧Below w.heap.size w w':=by
 obtain ⟨D,hD⟩:=qM (s.data.toList)
 have hlen:D.length=s.size:=by rw [hD];rfl
 have hget:∀ j (hj:j<s.size),D[j]?=some s[j]:=fun j hj=>by subst hD;rw [List.getElem?_eq_getElem qO];rfl
 have hpiece:∀ f k,s.extract f k=toB ((D.take k).drop f):=fun f k=>by rw [hD];exact zan7 s f k
 have HR:=Lib.hid (show cutB c s=(cutL c D).map toB by rw [hD];rfl);have HL:=Lib.hid hlen;have HG:=Lib.hid hget;have HP:=Lib.hid hpiece;clear hlen hget hpiece hD
 go_enter Tryz.func104,Tryz.ntmps104
 go_wp2_with fail
 go_loopw [5,6,7] (fun v f k wr=>∃ (q j:Nat) (xs:List ByteArray),j≤s.size∧q≤j∧f=.int .i64 q∧k=.int .i64 j∧CutAt c D xs q j∧OwnT wr w.heap.size v xs∧Below w.heap.size w wr) (fun _ _ k _=>s.size - (intOf k).toNat)
 case atStart=>exact ⟨0,0,[],by omega,by omega,rfl,rfl,CutAt.start c D,KOwn.lit w _ (Nat.le_refl _),qBl⟩
 case round =>
  obtain ⟨q,j,xs,hj,hq,rfl,rfl,hc,ho,hb⟩:=hrel
  have hxl:xs.length≤s.size:=by have:=hc.len;have:=HL.out;omega
  obtain ⟨av,cv,rfl⟩:=ho.sl;have hz:=hb.size
  by_cases hlt:j<s.size
  · have hg:=HG.out j hlt
    by_cases he:s[j]=c
    · have h1:s[j].toNat=c.toNat:=by rw [he]
      have hn:=hc.hit (by rw [HL.out];exact hlt) ((List.getElem?_eq_some_iff.1 hg).2.trans he);obtain ⟨p,hp⟩:=qN (s.extract q j);have HP2:=Lib.hid ((HP.out q j).symm.trans hp);have HN:=Lib.hid hn;clear hn hc he hg;have hxl2:xs.length≤1048576:=qO
      go_wp2_with (at_builtin;refine zaaj strI _ _ rfl rfl w.heap.size _ xs [p] (some ⟨wr.heap.size,0,none⟩) 1 rfl (ho.alloc _) rfl (zaid _ _ _) qO qP (by simp;omega) ?_;rintro av5 cv5 w5 o5 - b5 -)
      go_roundw
      case rel =>
       refine ⟨j+1,j+1,xs ++ [p],by omega,by omega,by first|rfl|go_num,by first|rfl|go_num,?_,(by rw [List.length_append] at o5;exact o5),(hb.alloc hz _).trans b5⟩
       have:=HN.out
       rwa [HP2.out] at this
      case measure=>simp [intOf];omega
    · have h1:¬ s[j].toNat=c.toNat:=fun e=>he (UInt8.toNat_inj.1 e)
      have hn:=hc.pass (by rw [HL.out];exact hlt) (fun e=>he ((List.getElem?_eq_some_iff.1 hg).2.symm.trans e))
      clear hc he hg
      go_wp2
      go_roundw
      case rel=>exact ⟨q,j+1,xs,by omega,by omega,rfl,by go_num,hn,ho,hb⟩
      case measure=>simp [intOf];omega
  · obtain rfl:j=s.size:=by omega
    obtain ⟨p,hp⟩:=qN (s.extract q s.size);have HP2:=Lib.hid ((HP.out q s.size).symm.trans hp);have hl:=hc.no;have hc':=hc;rw [← HL.out] at hc';have HN:=Lib.hid hc'.last;have HPD:=Lib.hid (show (D.take s.size).drop q=D.drop q by rw [List.take_of_length_le (by rw [HL.out];exact Nat.le_refl _)]);clear hc hc' hl;have hxl2:xs.length≤1048576:=qO
    go_wp2_with (at_builtin;refine zaaj strI _ _ rfl rfl w.heap.size _ xs [p] (some ⟨wr.heap.size,0,none⟩) 1 rfl (ho.alloc _) rfl (zaid _ _ _) qO qP (by simp;omega) ?_;rintro av5 cv5 w5 o5 - b5 -)
    have e:cutB c s=xs ++ [p]:=by
     have h1:=HP2.out;rw [HPD.out] at h1;rw [HR.out,HN.out,h1]
    go_ret
    exact ⟨av5,cv5,by rw [e,List.length_append];rfl,by rw [e];exact o5,(hb.alloc hz _).trans b5⟩
theorem zajs {c:UInt8}:∀ {s:List UInt8},c ∉ s→Lib.index s [c] = -1
 | [],_=>rfl
 | b :: l,h=>by
   have h1:¬ c=b:=fun e=>h (by simp [e])
   have h2:c ∉ l:=fun e=>h (by simp [e])
   have h3:(c == b)=false:=by simpa using h1
   rw [Lib.index]
   simp [List.isPrefixOf,h3,zajs h2]
theorem zah8 {c:UInt8} (r:List UInt8):∀ {p:List UInt8},c ∉ p→Lib.index (p ++ c :: r) [c]=p.length
 | [],_=>by simp [Lib.index,List.isPrefixOf]
 | b :: l,h=>by
   have h1:¬ c=b:=fun e=>h (by simp [e])
   have h2:c ∉ l:=fun e=>h (by simp [e])
   have h3:(c == b)=false:=by simpa using h1
   have ih:=zah8 r h2;rw [List.cons_append,Lib.index];have h4:¬ ((l.length:Int) = -1):=qO
   simp [List.isPrefixOf,h3,ih,h4]
theorem zayl {c:UInt8} {s:List UInt8} (h:c ∉ s):Lib.cut s [c]=(s,[],false):=by
 unfold Lib.cut;rw [zajs h];rfl
theorem zal7 {c:UInt8} {p:List UInt8} (r:List UInt8) (h:c ∉ p):Lib.cut (p ++ c :: r) [c]=(p,r,true):=by
 unfold Lib.cut;rw [zah8 r h,if_pos qO]
 simp [List.take_append,List.drop_append]
theorem zak4 {c:UInt8}:∀ (k:Nat) (s:List UInt8),s.count c≤k→Lib.splitK [c] 0 k s=cutL c s
 | k,s,h=>by
   by_cases hc:c ∈ s
   · obtain ⟨p,r,rfl,hp⟩:=List.eq_append_cons_of_mem hc
     have hcount:(p ++ c :: r).count c=r.count c+1:=by
      rw [List.count_append,List.count_eq_zero.2 hp,List.count_cons_self,Nat.zero_add]
     obtain ⟨k,rfl⟩:∃ q,k=q+1:=⟨k - 1,by omega⟩;rw [Lib.splitK,zah8 r hp,if_neg (by rw [beq_iff_eq];omega),zaaz r hp];have ih:=zak4 (c:=c) k r qO;simp only [Nat.add_zero,Int.toNat_natCast,List.length_singleton];rw [show (p ++ c :: r).take p.length=p by simp,show (p ++ c :: r).drop (p.length+1)=r by simp [List.drop_append],ih]
   · rw [zabb hc]
     cases k with
     | zero=>rfl
     | succ k=>rw [Lib.splitK,zajs hc,if_pos (by rfl)]
theorem zak5 {c:UInt8} {s:ByteArray} {k:Nat} (h:s.data.toList.count c≤k):Lib.splitB ⟨#[c]⟩ 0 k s=cutB c s:=by
 have e:=Lib.splitB_data ⟨#[c]⟩ 0 k s;rw [show (⟨#[c]⟩:ByteArray).data.toList=[c] from rfl,zak4 k _ h] at e;unfold cutB
 rw [← e,List.map_map,show (toB ∘ fun s:ByteArray=>s.data.toList)=id from funext fun s=>zacd s,List.map_id]
theorem zagk (c:UInt8) (s:ByteArray):Lib.splitB ⟨#[c]⟩ 0 (Lib.countB s ⟨#[c]⟩) s=cutB c s :=
 zak5 (by unfold Lib.countB;rw [show (⟨#[c]⟩:ByteArray).data.toList=[c] from rfl,Lib.count_one];exact Nat.le_refl _)
def atoF (s:ByteArray):Option Int:=match Lib.atoiAll s.data.toList with
 | .ok v=>some v
 | _=>none
theorem zaxb:∀ k:Fin 199,Lib.atoiAll (Lib.itoa ((k.val:Int) - 99))=.ok ((k.val:Int) - 99):=by decide +kernel
theorem zacj {n:Int} (h : -99≤n∧n≤99):atoF (itoaB n)=some n:=by
 obtain ⟨k,rfl⟩:=zaf2 h;unfold atoF itoaB;simp only [zaxb]
def rdLeg (s:ByteArray):Option Lg:=match candL s.data.toList with
 | some g=>if legB g=s∧s.size≠0 then some g else none
 | none=>none
def rdLegD (s:ByteArray):Lg × Bool:=match rdLeg s with
 | some g=>(g,true)
 | none=>(noLeg,false)
theorem zak6 {g:Lg} (h:(legB g).size≠0):legOk 6 g=true:=by
 unfold legB at h
 split at h
 · assumption
 · exact absurd rfl h
theorem zaqe {g:Lg} (h:legOk 6 g=true):(legB g).size≠0:=by
 have e:(legB g).size=(legB g).data.toList.length:=rfl;rw [e,zaep h,List.length_append,List.length_cons]
 omega
theorem rdLeg_iff {s:ByteArray} {g:Lg}:rdLeg s=some g↔legOk 6 g=true∧legB g=s:=by
 unfold rdLeg
 constructor
 · intro h
   split at h
   · split at h
     · rename_i hc;obtain rfl:=Option.some.inj h;exact ⟨zak6 (by rw [hc.1];exact hc.2),hc.1⟩
     · cases h
   · cases h
 · rintro ⟨h,rfl⟩
   rw [zatj h]
   show (if legB g=legB g∧(legB g).size≠0 then some g else none)=some g
   rw [if_pos ⟨rfl,zaqe h⟩]
theorem zadh {s:ByteArray} {g:Lg} (h:rdLeg s=some g):rdLegD s=(g,true):=by unfold rdLegD;rw [h]
theorem zace {s:ByteArray} (h:rdLeg s=none):rdLegD s=(noLeg,false):=by unfold rdLegD;rw [h]
theorem zato {s:ByteArray} {g:Lg} (hc:∀ g',legOk 6 g'=true→legB g'=s→g'=g):rdLeg s=if legB g=s∧s.size≠0 then some g else none:=by
 split
 · rename_i h;exact rdLeg_iff.2 ⟨zak6 (by rw [h.1];exact h.2),h.1⟩
 · rename_i h
   cases hr:rdLeg s with
   | none=>rfl
   | some g' =>
     obtain ⟨h1,h2⟩:=rdLeg_iff.1 hr;obtain rfl:=hc g' h1 h2
     exact absurd ⟨h2,by rw [← h2];exact zaqe h1⟩ h
theorem zag6 {s:ByteArray} (hc:∀ g',legOk 6 g'=true→legB g'≠s):rdLeg s=none:=by
 cases hr:rdLeg s with
 | none=>rfl
 | some g' =>
   obtain ⟨h1,h2⟩:=rdLeg_iff.1 hr
   exact absurd h2 (hc g' h1)
theorem zava {n:Int} (h : -99≤n∧n≤99) {c:UInt8} (hc:c ∈ Lib.itoa n):c=45∨(48≤c.toNat∧c.toNat≤57):=by
 obtain ⟨k,rfl⟩:=zaf2 h
 exact zaqb k c hc
theorem zavb {g:Lg} {c:UInt8} (hc:c ∈ (legB g).data.toList):c=45∨c=44∨c=58∨c=62∨(48≤c.toNat∧c.toNat≤57):=by
 cases h:legOk 6 g
 · simp [legB,h] at hc
 · obtain ⟨hr1,hr2,hr3,hr4,hr5⟩:=zaaq qO h
   rw [zaep h] at hc;simp only [List.mem_append,List.mem_cons] at hc
   have key:∀ {n:Int},-99≤n∧n≤99→c ∈ Lib.itoa n→c=45∨c=44∨c=58∨c=62∨(48≤c.toNat∧c.toNat≤57):=fun hn hm=>by
    rcases zava hn hm with h|h
    · exact .inl h
    · exact .inr (.inr (.inr (.inr h)))
   rcases hc with (h|h|h)|h|h|h|h|h|h
   · exact key qO h
   · exact .inr (.inr (.inr (.inl h)))
   · exact key qO h
   · exact .inr (.inr (.inl h))
   · exact key qO h
   · exact .inr (.inl h)
   · exact key qO h
   · exact .inr (.inl h)
   · exact key qO h
theorem zaie {g:Lg} {c:UInt8} (h1:c≠45) (h2:c≠44) (h3:c≠58) (h4:c≠62) (h5:c.toNat<48∨57<c.toNat):c ∉ (legB g).data.toList:=by
 intro hc
 rcases zavb hc with h|h|h|h|h
 · exact h1 h
 · exact h2 h
 · exact h3 h
 · exact h4 h
 · omega
def joinL:List (List UInt8)→List UInt8
 | []=>[]
 | p :: l=>59 :: (p ++ joinL l)
theorem zam6:∀ (ps:List (List UInt8)) (p:List UInt8),(59:UInt8) ∉ p→(∀ q ∈ ps,(59:UInt8) ∉ q)→cutL 59 (p ++ joinL ps)=p :: ps
 | [],p,h,_=>by rw [joinL,List.append_nil,zabb h]
 | q :: ps,p,h,hq=>by
   rw [joinL,zaaz _ h,zam6 ps q (hq q qP) (fun x hx=>hq x (by simp [hx]))]
theorem zae2:∀ (l:List Lg) (t:ByteArray),(legsB t l).data.toList=t.data.toList ++ joinL (l.map fun g=>(legB g).data.toList)
 | [],t=>by simp [legsB,joinL]
 | g :: l,t=>by
   rw [legsB,zae2 l]
   simp [joinL]
theorem zarx {s:Sv} (h:svOk s=true):cutL 59 (surveyB s).data.toList=Lib.itoa s.st :: s.legs.map fun g=>(legB g).data.toList:=by
 have h':=svOk_iff.1 h;rw [surveyB,if_pos h,zae2];refine zam6 _ _ ?_ ?_
 · exact zact (n:=s.st) qO (by decide) (by decide)
 · intro q hq
   obtain ⟨g,_,rfl⟩:=List.mem_map.1 hq
   exact zaie (by decide) (by decide) (by decide) (by decide) (by decide)
theorem zajt {s:Sv} (h:svOk s=true) {g:Lg} (hg:g ∈ s.legs):legOk 6 g=true:=by
 have h':=svOk_iff.1 h;have:=List.all_eq_true.1 h'.2.2.2 g hg;simp only [legOk,isIdx,isIn,Bool.and_eq_true,decide_eq_true_eq,Bool.not_eq_true',Bool.or_eq_false_iff,decide_eq_false_iff_not] at this ⊢
 omega
def rdLegs:List ByteArray→Option (List Lg)
 | []=>some []
 | t :: l=>match rdLeg t with
   | some g=>match rdLegs l with
     | some gs=>some (g :: gs)
     | none=>none
   | none=>none
theorem zagc:∀ (l:List Lg),(∀ g ∈ l,legOk 6 g=true)→rdLegs (l.map legB)=some l
 | [],_=>rfl
 | g :: l,h=>by
   rw [List.map_cons,rdLegs,rdLeg_iff.2 ⟨h g qP,rfl⟩,zagc l (fun x hx=>h x (by simp [hx]))]
def candS (s:ByteArray):Option Sv:=match rdLegs (cutB 59 s).tail with
 | some l=>some ⟨rdL (nth (cutB 59 s) 0).data.toList,l⟩
 | none=>none
def rdSv (s:ByteArray):Option Sv:=match candS s with
 | some x=>if surveyB x=s∧s.size≠0 then some x else none
 | none=>none
def rdSvD (s:ByteArray):Sv × Bool:=match rdSv s with
 | some x=>(x,true)
 | none=>(zeroSv,false)
theorem zad5 {s:Sv} (h:svOk s=true):cutB 59 (surveyB s)=itoaB s.st :: s.legs.map legB:=by
 unfold cutB;rw [zarx h];simp only [List.map_cons,List.map_map]
 rw [show (toB ∘ fun g=>(legB g).data.toList)=legB from funext fun g=>zacd _]
 rfl
theorem zatp {s:Sv} (h:svOk s=true):candS (surveyB s)=some s:=by
 have h':=svOk_iff.1 h;unfold candS
 rw [zad5 h,List.tail_cons,zagc _ (fun g hg=>zajt h hg)]
 show some (⟨rdL (itoaB s.st).data.toList,s.legs⟩:Sv)=some s
 rw [show (itoaB s.st).data.toList=Lib.itoa s.st by simp [itoaB],zado qO]
theorem zam7 (n:Int):0<(Lib.itoa n).length:=by
 unfold Lib.itoa
 split
 · simp
 · rw [Lib.decDigits];split <;> simp
theorem zagd {s:Sv} (h:svOk s=true):(surveyB s).size≠0:=by
 have e:(surveyB s).size=(surveyB s).data.toList.length:=rfl;rw [e,surveyB,if_pos h,zae2,List.length_append];have:=zam7 s.st
 have e2:(itoaB s.st).data.toList=Lib.itoa s.st:=by simp [itoaB]
 rw [e2];omega
theorem zahg {s:Sv} (h:(surveyB s).size≠0):svOk s=true:=by
 unfold surveyB at h
 split at h
 · assumption
 · exact absurd rfl h
theorem rdSv_iff {s:ByteArray} {x:Sv}:rdSv s=some x↔svOk x=true∧surveyB x=s:=by
 unfold rdSv
 constructor
 · intro h
   split at h
   · split at h
     · rename_i hc;obtain rfl:=Option.some.inj h;exact ⟨zahg (by rw [hc.1];exact hc.2),hc.1⟩
     · cases h
   · cases h
 · rintro ⟨h,rfl⟩
   rw [zatp h]
   show (if surveyB x=surveyB x∧(surveyB x).size≠0 then some x else none)=some x
   rw [if_pos ⟨rfl,zagd h⟩]
theorem zash {s:ByteArray} (hc:∀ x,svOk x=true→surveyB x≠s):rdSv s=none:=by
 cases hr:rdSv s with
 | none=>rfl
 | some g' =>
   obtain ⟨h1,h2⟩:=rdSv_iff.1 hr
   exact absurd h2 (hc g' h1)
theorem zavc {s:ByteArray} {g:Sv} (hc:∀ g',svOk g'=true→surveyB g'=s→g'=g):rdSv s=if surveyB g=s∧s.size≠0 then some g else none:=by
 split
 · rename_i h;exact rdSv_iff.2 ⟨zahg (by rw [h.1];exact h.2),h.1⟩
 · rename_i h
   cases hr:rdSv s with
   | none=>rfl
   | some g' =>
     obtain ⟨h1,h2⟩:=rdSv_iff.1 hr;obtain rfl:=hc g' h1 h2
     exact absurd ⟨h2,by rw [← h2];exact zagd h1⟩ h
def kindF (t:ByteArray):Int:=if t=nameB 5 then 5 else if t=nameB 4 then 4 else if t=nameB 3 then 3 else if t=nameB 2 then 2 else if t=nameB 1 then 1 else if t=nameB 0 then 0 else -1
theorem zae3 {k:Int} (h:0≤k∧k≤5):kindF (nameB k)=k:=by
 have:k=0∨k=1∨k=2∨k=3∨k=4∨k=5:=qO
 rcases this with rfl|rfl|rfl|rfl|rfl|rfl <;> decide
theorem zaxc (k:Int):(32:UInt8) ∉ (nameB k).data.toList:=by
 unfold nameB
 repeat' (first|split|decide)
def candD (ws:List ByteArray):Dd:=⟨kindF (nth ws 0),if 1<ws.length then rdL (nth ws 1).data.toList else 0,if 2<ws.length then (rdLegD (nth ws 2)).1 else noLeg⟩
def rdDd (s:ByteArray):Option Dd:=if deedB (candD (cutB 32 s))=s∧s.size≠0 then some (candD (cutB 32 s)) else none
def rdDdD (s:ByteArray):Dd × Bool:=match rdDd s with
 | some x=>(x,true)
 | none=>(noDd,false)
theorem zage {d:Dd} (h:ddIn d=true):cutB 32 (deedB d)=if d.kind=0∨d.kind=3 then [nameB d.kind,itoaB d.index,legB d.leg] else if d.kind<4 then [nameB d.kind,itoaB d.index] else [nameB d.kind]:=by
 have h':=h;unfold ddIn at h';simp only [Bool.and_eq_true,inB,decide_eq_true_eq] at h';have hi : -99≤d.index∧d.index≤99:=qO
 have e2:(itoaB d.index).data.toList=Lib.itoa d.index:=by simp [itoaB]
 have n2:(32:UInt8) ∉ Lib.itoa d.index:=zact hi (by decide) (by decide);have n3:(32:UInt8) ∉ (legB d.leg).data.toList:=zaie (by decide) (by decide) (by decide) (by decide) (by decide);have n1:=zaxc d.kind;unfold cutB deedB;rw [if_pos h]
 split
 · have e:(nameB d.kind ++ ((⟨#[32]⟩:ByteArray) ++ itoaB d.index) ++ ((⟨#[32]⟩:ByteArray) ++ legB d.leg)).data.toList=(nameB d.kind).data.toList ++ 32 :: (Lib.itoa d.index ++ 32 :: (legB d.leg).data.toList):=by simp [e2]
   rw [e,zaaz _ n1,zaaz _ n2,zabb n3];simp only [List.map_cons,List.map_nil,zacd]
   rfl
 · split
   · have e:(nameB d.kind ++ ((⟨#[32]⟩:ByteArray) ++ itoaB d.index)).data.toList=(nameB d.kind).data.toList ++ 32 :: Lib.itoa d.index:=by simp [e2]
     rw [e,zaaz _ n1,zabb n2];simp only [List.map_cons,List.map_nil,zacd]
     rfl
   · rw [zabb n1]
     simp only [List.map_cons,List.map_nil,zacd]
theorem zatq {d:Dd} (h:ddIn d=true):candD (cutB 32 (deedB d))=d:=by
 rw [zage h];have h':=h;unfold ddIn at h';simp only [Bool.and_eq_true,inB,decide_eq_true_eq,Bool.or_eq_true,Bool.not_eq_true',Bool.or_eq_false_iff,decide_eq_false_iff_not] at h';obtain ⟨⟨⟨hk,hi⟩,h45⟩,hl⟩:=h'
 have e2:(itoaB d.index).data.toList=Lib.itoa d.index:=by simp [itoaB]
 have e3:rdL (itoaB d.index).data.toList=d.index:=by rw [e2,zado qO]
 obtain ⟨kd,ix,g⟩:=d;simp only at hk hi h45 hl e3 ⊢
 by_cases h03:kd=0∨kd=3
 · rw [if_pos h03] at hl ⊢
   have e4:rdLegD (legB g)=(g,true):=zadh (rdLeg_iff.2 ⟨hl,rfl⟩)
   simp [candD,nth,zae3 hk,e3,e4]
 · rw [if_neg h03] at hl ⊢
   have hg:g=noLeg:=by simpa using hl
   by_cases h4:kd<4
   · rw [if_pos h4]
     simp [candD,nth,zae3 hk,e3,hg]
   · rw [if_neg h4]
     have:ix=0:=qO
     simp [candD,nth,zae3 hk,hg,this]
theorem zai8 {d:Dd} (h:(deedB d).size≠0):ddIn d=true:=by
 unfold deedB at h
 by_cases hc:ddIn d=true
 · exact hc
 · rw [if_neg hc] at h;exact absurd rfl h
theorem zavd (k:Int):(nameB k).size≠0:=by
 unfold nameB
 repeat' (first|split|decide)
theorem zam8 {d:Dd} (h:ddIn d=true):(deedB d).size≠0:=by
 have:=zavd d.kind;unfold deedB;rw [if_pos h]
 split
 · simp only [ByteArray.size_append];omega
 · split
   · simp only [ByteArray.size_append];omega
   · exact this
theorem rdDd_iff {s:ByteArray} {d:Dd}:rdDd s=some d↔ddIn d=true∧deedB d=s:=by
 unfold rdDd
 constructor
 · intro h
   split at h
   · rename_i hc;obtain rfl:=Option.some.inj h;exact ⟨zai8 (by rw [hc.1];exact hc.2),hc.1⟩
   · cases h
 · rintro ⟨h,rfl⟩
   rw [zatq h,if_pos ⟨rfl,zam8 h⟩]
theorem zasi {s:ByteArray} (hc:∀ x,ddIn x=true→deedB x≠s):rdDd s=none:=by
 cases hr:rdDd s with
 | none=>rfl
 | some g' =>
   obtain ⟨h1,h2⟩:=rdDd_iff.1 hr
   exact absurd h2 (hc g' h1)
theorem zave {s:ByteArray} {g:Dd} (hc:∀ g',ddIn g'=true→deedB g'=s→g'=g):rdDd s=if deedB g=s∧s.size≠0 then some g else none:=by
 split
 · rename_i h;exact rdDd_iff.2 ⟨zai8 (by rw [h.1];exact h.2),h.1⟩
 · rename_i h
   cases hr:rdDd s with
   | none=>rfl
   | some g' =>
     obtain ⟨h1,h2⟩:=rdDd_iff.1 hr;obtain rfl:=hc g' h1 h2
     exact absurd ⟨h2,by rw [← h2];exact zam8 h1⟩ h
set_option maxHeartbeats 1000000
theorem At.facts5 {w:World} {X:Nat} {a b c d e:Value} (h:At w X [a,b,c,d,e]):X<w.heap.size∧w.cell? ⟨X,0,none⟩=some a∧w.cell? ⟨X,1,none⟩=some b∧w.cell? ⟨X,2,none⟩=some c∧w.cell? ⟨X,3,none⟩=some d∧w.cell? ⟨X,4,none⟩=some e∧∀ j,w.frozen? ⟨X,j,none⟩=false :=
 ⟨h.lt,h.c 0 _ rfl,h.c 1 _ rfl,h.c 2 _ rfl,h.c 3 _ rfl,h.c 4 _ rfl,h.f⟩
theorem At.sets5 {w:World} {X:Nat} {u0 u1 u2 u3 u4:Value} (h:At w X [u0,u1,u2,u3,u4]) (a b c d e:Value) :
 At (((((w.setCell ⟨X,0,none⟩ a).setCell ⟨X,1,none⟩ b).setCell ⟨X,2,none⟩ c).setCell ⟨X,3,none⟩ d).setCell ⟨X,4,none⟩ e) X [a,b,c,d,e]:=((((h.set 0 a).set 1 b).set 2 c).set 3 d).set 4 e
theorem zaa1 {B:Nat} {w w':World} (h:Below B w w') {X:Nat} (hX:B≤X) (a b c d e:Value):Below B w (((((w'.setCell ⟨X,0,none⟩ a).setCell ⟨X,1,none⟩ b).setCell ⟨X,2,none⟩ c).setCell ⟨X,3,none⟩ d).setCell ⟨X,4,none⟩ e) :=
 ((((h.setCell (p:=⟨X,0,none⟩) hX a).setCell (p:=⟨X,1,none⟩) hX b).setCell (p:=⟨X,2,none⟩) hX c).setCell (p:=⟨X,3,none⟩) hX d).setCell (p:=⟨X,4,none⟩) hX e
theorem zal8 (s:ByteArray) (w:World) (hs:s.size≤1048576) :
 Calls Tryz.prog 104 #[.string s,.int .u8 58] w fun e w'=>∃ a cp,e=.returned (.slice a (cutB 58 s).length cp)∧OwnT w' w.heap.size (.slice a (cutB 58 s).length cp) (cutB 58 s)∧Below w.heap.size w w':=zaeq s 58 w hs
theorem zasj (s:ByteArray) (w:World) (hs:s.size≤1048576) :
 Calls Tryz.prog 104 #[.string s,.int .u8 62] w fun e w'=>∃ a cp,e=.returned (.slice a (cutB 62 s).length cp)∧OwnT w' w.heap.size (.slice a (cutB 62 s).length cp) (cutB 62 s)∧Below w.heap.size w w':=zaeq s 62 w hs
theorem zask (s:ByteArray) (w:World) (hs:s.size≤1048576) :
 Calls Tryz.prog 104 #[.string s,.int .u8 44] w fun e w'=>∃ a cp,e=.returned (.slice a (cutB 44 s).length cp)∧OwnT w' w.heap.size (.slice a (cutB 44 s).length cp) (cutB 44 s)∧Below w.heap.size w w':=zaeq s 44 w hs
theorem zac1 (sep:UInt8) (s:ByteArray):cutL sep s.data.toList=(cutB sep s).map (·.data.toList):=by
 unfold cutB
 rw [List.map_map,show ((fun s:ByteArray=>s.data.toList) ∘ toB)=id from funext fun l=>toB_list l,List.map_id]
theorem zasl (sep:UInt8):∀ (l:List UInt8),∀ p ∈ cutL sep l,p.length≤l.length
 | [],p,h=>by simp [cutL] at h;simp [h]
 | c :: r,p,h=>by
   have ih:=zasl sep r;rw [cutL] at h
   split at h
   · rcases List.mem_cons.1 h with rfl|h
     · simp
     · have:=ih p h;simp;omega
   · split at h
     · rcases List.mem_cons.1 h with rfl|h
       · simp
       · cases h
     · rename_i q qs hq
       rw [hq] at ih
       rcases List.mem_cons.1 h with rfl|h
       · have:=ih q qP;simp;omega
       · have:=ih p (by simp [h]);simp;omega
theorem zadt {sep:UInt8} {s p:ByteArray} (h:p ∈ cutB sep s):p.size≤s.size:=by
 unfold cutB at h;obtain ⟨q,hq,rfl⟩:=List.mem_map.1 h;have:=zasl sep _ q hq
 have e:(toB q).size=q.length:=by simp [toB,ByteArray.size]
 have e2:s.data.toList.length=s.size:=rfl
 omega
theorem zaxd {s:ByteArray} (h:(cutB 58 s).length≠2):candL s.data.toList=none:=by
 unfold candL;rw [zac1];generalize cutB 58 s=l at h
 match l,h with
 | [],_=>rfl
 | [_],_=>rfl
 | [_,_],h=>exact absurd rfl h
 | _ :: _ :: _ :: _,_=>rfl
theorem zavf {s a b:ByteArray} (h:cutB 58 s=[a,b]) (h2:(cutB 62 a).length≠2∨(cutB 44 b).length≠3):candL s.data.toList=none:=by
 unfold candL;rw [zac1,h];simp only [List.map_cons,List.map_nil];rw [zac1,zac1];generalize cutB 62 a=l at h2;generalize cutB 44 b=m at h2
 match l,m,h2 with
 | [_,_],[_,_,_],h=>rcases h with h|h <;> exact absurd rfl h
 | [_,_],[],_=>rfl
 | [_,_],[_],_=>rfl
 | [_,_],[_,_],_=>rfl
 | [_,_],_ :: _ :: _ :: _ :: _,_=>rfl
 | [],_,_=>rfl
 | [_],_,_=>rfl
 | _ :: _ :: _ :: _,_,_=>rfl
theorem zaxe {s a b f t x y z:ByteArray} (h:cutB 58 s=[a,b]) (h2:cutB 62 a=[f,t]) (h3:cutB 44 b=[x,y,z]):candL s.data.toList=some ⟨rdL f.data.toList,rdL t.data.toList,rdL x.data.toList,rdL y.data.toList,rdL z.data.toList⟩:=by
 unfold candL;rw [zac1,h];simp only [List.map_cons,List.map_nil];rw [zac1,zac1,h2,h3]
 rfl
theorem zagl {s:ByteArray} (h:candL s.data.toList=none):rdLegD s=(noLeg,false):=by
 refine zace ?_;unfold rdLeg;rw [h]
theorem zatr {s:ByteArray} {g:Lg} (h:candL s.data.toList=some g) (h2:legB g=s∧s.size≠0):rdLegD s=(g,true):=by
 refine zadh ?_;unfold rdLeg;rw [h]
 show (if legB g=s∧s.size≠0 then some g else none)=some g
 rw [if_pos h2]
theorem zak7 {s:ByteArray} {g:Lg} (h:candL s.data.toList=some g) (h2:¬ (legB g=s∧s.size≠0)):rdLegD s=(noLeg,false):=by
 refine zace ?_;unfold rdLeg;rw [h]
 show (if legB g=s∧s.size≠0 then some g else none)=none
 rw [if_neg h2]
theorem zadu (l:List UInt8) : -9999≤rdL l∧rdL l≤9999:=by
 have h1:=zae1 l;have h2:=zae1 l.tail;unfold rdL
 split
 · omega
 · split <;> omega
def LgOut (p:Lg × Bool) (w:World) (e:Ending) (w':World):Prop:=e=.returned (.tuple #[.agg #[.int .i64 p.1.frm,.int .i64 p.1.to,.int .i64 p.1.east,.int .i64 p.1.north,.int .i64 p.1.up],.bool p.2])∧Below w.heap.size w w'
theorem zaqf {l:List ByteArray} (h:l.length=2):∃ a b,l=[a,b]:=by
 match l,h with
 | [a,b],_=>exact ⟨a,b,rfl⟩
theorem zak8 {l:List ByteArray} (h:l.length=3):∃ a b c,l=[a,b,c]:=by
 match l,h with
 | [a,b,c],_=>exact ⟨a,b,c,rfl⟩
theorem OwnT.cells {w:World} {B:Nat} {a:Option Addr} {n c:Nat} {l:List ByteArray} (h:OwnT w B (.slice a n c) l) (h0:0<l.length):∃ b,a=some ⟨b,0,none⟩∧B≤b∧b<w.heap.size∧∀ k,k<l.length→w.cell? ⟨b,k,none⟩=some (.string (nth l k)):=by
 obtain ⟨a',c',e,_,_,hr,_,ho⟩:=h.form
 cases e
 obtain ⟨b,off,rfl,hb,hc⟩:=Rd.at hr h0;obtain ⟨h1,h2,_,rfl⟩:=ho b off rfl
 refine ⟨b,rfl,h1,h2,fun k hk=>?_⟩
 have:=hc k hk 0 _ rfl
 simpa [strK,Kind.lay] using this
theorem zaca (a b:ByteArray):(a.toList != b.toList)=!decide (a=b):=by
 rw [Lib.toList_data,Lib.toList_data]
 by_cases h:a=b
 · subst h;simp
 · have:a.data.toList≠b.data.toList:=fun e=>h (ByteArray.ext (Array.ext' e))
   simp [h,this]
theorem zac2 (s:ByteArray):s.toList.isEmpty=decide (s.size=0):=by
 rw [Lib.toList_data];have e:s.size=s.data.toList.length:=rfl;rw [e]
 cases s.data.toList <;> simp
theorem zaqg (s:ByteArray) (w:World) (hs:s.size≤1048576) (h2:(cutB 58 s).length≠2):Calls Tryz.prog 107 #[.string s] w (LgOut (noLeg,false) w):=by
 simp only [noLeg];have hn:((cutB 58 s).length:Int)≠2:=qO;obtain ⟨N,hN⟩:=qM ((cutB 58 s).length);rw [← hN] at hn h2
 go_enter Tryz.func107,Tryz.ntmps107
 go_wp2_with fail;obtain ⟨X,hX⟩:=qN (w.heap.size);obtain ⟨W0,hW0⟩:=qM (w.alloc (.cells #[.int .i64 0,.int .i64 0,.int .i64 0,.int .i64 0,.int .i64 0] 75))
 have F0:At W0 X [.int .i64 0,.int .i64 0,.int .i64 0,.int .i64 0,.int .i64 0]:=by rw [hW0];exact At.new _ _ _ hX.symm rfl
 have b0:Below w.heap.size w W0:=by rw [hW0];exact qBl
 rw [hX,← hW0];clear hW0;refine (zal8 s _ hs).mono ?_;rintro e w1 ⟨a1,c1,rfl,o1,b1⟩;rw [← hN];replace F0:=F0.below b1;replace b0:=b0.trans (b1.mono b0.size);clear b1 o1 hN;obtain ⟨r,r0,r1,r2,r3,r4,rf⟩:=F0.facts5;clear F0;go_wp2_with fail;refine bodyPost_ret (v:=.tuple #[.agg #[.int .i64 0,.int .i64 0,.int .i64 0,.int .i64 0,.int .i64 0],.bool false]) (by simp [results,Tryz.results107,go_sem,r0,r1,r2,r3,r4]) rfl ⟨rfl,?_⟩
 exact zaa1 b0 qO _ _ _ _ _
theorem zan8 (s p q:ByteArray) (w:World) (hs:s.size≤1048576) (hpq:cutB 58 s=[p,q]) (h2:(cutB 62 p).length≠2∨(cutB 44 q).length≠3):Calls Tryz.prog 107 #[.string s] w (LgOut (noLeg,false) w):=by
 simp only [noLeg];have hp:p.size≤1048576:=Nat.le_trans (zadt (sep:=58) (s:=s) (by rw [hpq];simp)) hs;have hq:q.size≤1048576:=Nat.le_trans (zadt (sep:=58) (s:=s) (by rw [hpq];simp)) hs;obtain ⟨N,hN⟩:=qM ((cutB 62 p).length);obtain ⟨M,hM⟩:=qM ((cutB 44 q).length);rw [← hN,← hM] at h2;have i1:=zal8 s;rw [hpq] at i1;simp only [List.length_cons,List.length_nil,Nat.zero_add] at i1;clear hpq
 go_enter Tryz.func107,Tryz.ntmps107
 go_wp2_with fail;obtain ⟨X,hX⟩:=qN (w.heap.size);obtain ⟨W0,hW0⟩:=qM (w.alloc (.cells #[.int .i64 0,.int .i64 0,.int .i64 0,.int .i64 0,.int .i64 0] 75))
 have F0:At W0 X [.int .i64 0,.int .i64 0,.int .i64 0,.int .i64 0,.int .i64 0]:=by rw [hW0];exact At.new _ _ _ hX.symm rfl
 have b0:Below w.heap.size w W0:=by rw [hW0];exact qBl
 rw [hX,← hW0];clear hW0;refine (i1 _ hs).mono ?_;rintro e w1 ⟨a1,c1,rfl,o1,b1⟩;replace F0:=F0.below b1;replace b0:=b0.trans (b1.mono b0.size);clear b1 i1;obtain ⟨B1,rfl,hB1,hl1,hc1⟩:=OwnT.cells o1 qP;have m0:w1.cell? ⟨B1,0,none⟩=some (.string p):=hc1 0 qP;have m1:w1.cell? ⟨B1,1,none⟩=some (.string q):=hc1 1 qP;clear hc1 o1;go_wp2_with fail;refine (zasj p _ hp).mono ?_;rintro e w2 ⟨a2,c2,rfl,o2,b2⟩;rw [← hN];replace F0:=F0.below b2;replace b0:=b0.trans (b2.mono b0.size);replace m1:=(b2.cell (p:=⟨B1,1,none⟩) hl1).trans m1;have hl2:=Nat.lt_of_lt_of_le hl1 b2.size;clear b2 o2 hN m0 hl1;go_wp2_with fail;refine (zask q _ hq).mono ?_;rintro e w3 ⟨a3,c3,rfl,o3,b3⟩;rw [← hM];replace F0:=F0.below b3;replace b0:=b0.trans (b3.mono b0.size);clear b3 o3 hM m1 hl2;obtain ⟨r,r0,r1,r2,r3,r4,rf⟩:=F0.facts5;clear F0
 by_cases hN2:N=2
 · subst hN2
   have hM3:(M:Int)≠3:=qO;clear h2;go_wp2_with fail;refine bodyPost_ret (v:=.tuple #[.agg #[.int .i64 0,.int .i64 0,.int .i64 0,.int .i64 0,.int .i64 0],.bool false]) (by simp [results,Tryz.results107,go_sem,r0,r1,r2,r3,r4]) rfl ⟨rfl,?_⟩
   exact zaa1 b0 qO _ _ _ _ _
 · have hN3:(N:Int)≠2:=by omega
   clear h2;go_wp2_with fail;refine bodyPost_ret (v:=.tuple #[.agg #[.int .i64 0,.int .i64 0,.int .i64 0,.int .i64 0,.int .i64 0],.bool false]) (by simp [results,Tryz.results107,go_sem,r0,r1,r2,r3,r4]) rfl ⟨rfl,?_⟩
   exact zaa1 b0 qO _ _ _ _ _
set_option maxHeartbeats 2000000
theorem zaqh (s p q f t x y z:ByteArray) (w:World) (hs:s.size≤1048576) (hpq:cutB 58 s=[p,q]) (h2:cutB 62 p=[f,t]) (h3:cutB 44 q=[x,y,z]):Calls Tryz.prog 107 #[.string s] w (LgOut (rdLegD s) w):=by
 have hc:=zaxe hpq h2 h3;have hp:p.size≤1048576:=Nat.le_trans (zadt (sep:=58) (s:=s) (by rw [hpq];simp)) hs;have hq:q.size≤1048576:=Nat.le_trans (zadt (sep:=58) (s:=s) (by rw [hpq];simp)) hs;have i1:=zal8 s;have i2:=zasj p;have i3:=zask q;rw [hpq] at i1;rw [h2] at i2;rw [h3] at i3;simp only [List.length_cons,List.length_nil,Nat.zero_add] at i1 i2 i3;clear hpq h2 h3;obtain ⟨d1,d2⟩:=zadu f.data.toList;obtain ⟨d3,d4⟩:=zadu t.data.toList;obtain ⟨d5,d6⟩:=zadu x.data.toList;obtain ⟨d7,d8⟩:=zadu y.data.toList;obtain ⟨d9,d10⟩:=zadu z.data.toList;have r1:=zab9 f;have r2:=zab9 t;have r3:=zab9 x;have r4:=zab9 y;have r5:=zab9 z;generalize rdL f.data.toList=n1 at *;generalize rdL t.data.toList=n2 at *;generalize rdL x.data.toList=n3 at *;generalize rdL y.data.toList=n4 at *;generalize rdL z.data.toList=n5 at *;have HC:=Lib.hid hc;clear hc;have it:=zafl ⟨n1,n2,n3,n4,n5⟩;obtain ⟨L,hL⟩:=qM (legB ⟨n1,n2,n3,n4,n5⟩);rw [← hL] at it;have HL:=Lib.hid hL;clear hL;simp only [Lg.val] at it
 go_enter Tryz.func107,Tryz.ntmps107
 go_wp2_with fail;obtain ⟨X,hX⟩:=qN (w.heap.size);obtain ⟨W0,hW0⟩:=qM (w.alloc (.cells #[.int .i64 0,.int .i64 0,.int .i64 0,.int .i64 0,.int .i64 0] 75))
 have F0:At W0 X [.int .i64 0,.int .i64 0,.int .i64 0,.int .i64 0,.int .i64 0]:=by rw [hW0];exact At.new _ _ _ hX.symm rfl
 have b0:Below w.heap.size w W0:=by rw [hW0];exact qBl
 rw [hX,← hW0];clear hW0;refine (i1 _ hs).mono ?_;rintro e w1 ⟨a1,c1,rfl,o1,b1⟩;replace F0:=F0.below b1;replace b0:=b0.trans (b1.mono b0.size);clear b1 i1;obtain ⟨B1,rfl,hB1,hl1,hc1⟩:=OwnT.cells o1 qP;have m0:w1.cell? ⟨B1,0,none⟩=some (.string p):=hc1 0 qP;have m1:w1.cell? ⟨B1,1,none⟩=some (.string q):=hc1 1 qP;clear hc1 o1;go_wp2_with fail;refine (i2 _ hp).mono ?_;rintro e w2 ⟨a2,c2,rfl,o2,b2⟩;replace F0:=F0.below b2;replace b0:=b0.trans (b2.mono b0.size);replace m1:=(b2.cell (p:=⟨B1,1,none⟩) hl1).trans m1;have hl2:=Nat.lt_of_lt_of_le hl1 b2.size;clear b2 m0 hl1 i2;go_wp2_with fail;refine (i3 _ hq).mono ?_;rintro e w3 ⟨a3,c3,rfl,o3,b3⟩;replace F0:=F0.below b3;replace o2:=o2.below b3;replace b0:=b0.trans (b3.mono b0.size);clear b3 m1 hl2 i3;obtain ⟨B2,rfl,hB2,hl2,hc2⟩:=OwnT.cells o2 qP;obtain ⟨B3,rfl,hB3,hl3,hc3⟩:=OwnT.cells o3 qP;have u0:w3.cell? ⟨B2,0,none⟩=some (.string f):=hc2 0 qP;have u1:w3.cell? ⟨B2,1,none⟩=some (.string t):=hc2 1 qP;have v0:w3.cell? ⟨B3,0,none⟩=some (.string x):=hc3 0 qP;have v1:w3.cell? ⟨B3,1,none⟩=some (.string y):=hc3 1 qP;have v2:w3.cell? ⟨B3,2,none⟩=some (.string z):=hc3 2 qP;clear hc2 hc3 o2 o3;go_upto_region 8 with fail
 go_cut [7] (Boxed w3 [.int .i64 n1,.int .i64 n2,.int .i64 n3,.int .i64 n4,.int .i64 n5])
 case first =>
  go_region_held3 (fun w'=>Below w3.heap.size w3 w'∧∀ b o,b<w3.heap.size→w'.cell? ⟨b,o,none⟩=w3.cell? ⟨b,o,none⟩) (exact kept qHb)
   (first
   | (go_at_call 106;(with_reducible refine (r1 _).mono ?_);rintro e wy ⟨rfl,rfl⟩)
   | (go_at_call 106;(with_reducible refine (r2 _).mono ?_);rintro e wy ⟨rfl,rfl⟩)
   | (go_at_call 106;(with_reducible refine (r3 _).mono ?_);rintro e wy ⟨rfl,rfl⟩)
   | (go_at_call 106;(with_reducible refine (r4 _).mono ?_);rintro e wy ⟨rfl,rfl⟩)
   | (go_at_call 106;(with_reducible refine (r5 _).mono ?_);rintro e wy ⟨rfl,rfl⟩))
  all_goals (go_wp2_with fail;go_meet)
  all_goals exact ⟨_,rfl,Nat.le_refl _,(At.new _ _ _ rfl rfl).drew,qBl⟩
 case rest =>
  obtain ⟨Y,rfl,hY,AY,bY⟩:=hcut;replace F0:=F0.below bY;replace b0:=b0.trans (bY.mono b0.size);clear v0 v1 v2 hl2 hl3 bY r1 r2 r3 r4 r5;obtain ⟨t5,t0,t1,t2,t3,t4,tf⟩:=id AY.facts5;go_wp2_with fail;refine (it _).mono ?_;rintro e w4 ⟨rfl,b4⟩;replace F0:=F0.below b4;replace AY:=AY.below b4;replace b0:=b0.trans (b4.mono b0.size);clear t0 t1 t2 t3 t4 t5 tf b4 it;obtain ⟨t5,t0,t1,t2,t3,t4,tf⟩:=id AY.facts5;obtain ⟨r,r0,r1,r2,r3,r4,rf⟩:=id F0.facts5;have hne:=zaca L s;have hem:=zac2 s;clear AY F0
  by_cases hLs:L=s
  · subst hLs
    simp only [decide_true,Bool.not_true] at hne
    by_cases h0:L.size=0
    · rw [decide_eq_true h0] at hem
      have HE:=Lib.hid (zak7 HC.out (fun h=>h.2 h0))
      clear h0;go_wp2_with fail;refine bodyPost_ret (v:=.tuple #[.agg #[.int .i64 0,.int .i64 0,.int .i64 0,.int .i64 0,.int .i64 0],.bool false]) (by simp [results,Tryz.results107,go_sem,r0,r1,r2,r3,r4]) rfl ⟨by rw [HE.out];rfl,?_⟩
      exact zaa1 b0 qO _ _ _ _ _
    · rw [decide_eq_false h0] at hem
      have HE:=Lib.hid (zatr HC.out ⟨HL.out.symm,h0⟩);clear h0;go_wp2_with fail;refine bodyPost_ret (v:=.tuple #[.agg #[.int .i64 n1,.int .i64 n2,.int .i64 n3,.int .i64 n4,.int .i64 n5],.bool true]) (by simp [results,Tryz.results107,go_sem,r0,r1,r2,r3,r4]) rfl ⟨by rw [HE.out],?_⟩
      exact zaa1 b0 qO _ _ _ _ _
  · rw [decide_eq_false hLs,Bool.not_false] at hne
    have HE:=Lib.hid (zak7 HC.out (fun h=>hLs (HL.out.trans h.1)))
    have hne2:¬ L.toList=s.toList:=by rw [Lib.toList_data,Lib.toList_data];exact fun e=>hLs (ByteArray.ext (Array.ext' e))
    clear hLs;go_wp2_with fail;refine bodyPost_ret (v:=.tuple #[.agg #[.int .i64 0,.int .i64 0,.int .i64 0,.int .i64 0,.int .i64 0],.bool false]) (by simp [results,Tryz.results107,go_sem,r0,r1,r2,r3,r4]) rfl ⟨by rw [HE.out];rfl,?_⟩
    exact zaa1 b0 qO _ _ _ _ _
theorem zaqi (s:ByteArray) (w:World) (hs:s.size≤1048576):Calls Tryz.prog 107 #[.string s] w (LgOut (rdLegD s) w):=by
 by_cases h2:(cutB 58 s).length=2
 · obtain ⟨p,q,hpq⟩:=zaqf h2
   by_cases h3:(cutB 62 p).length=2∧(cutB 44 q).length=3
   · obtain ⟨f,t,hf⟩:=zaqf h3.1
     obtain ⟨x,y,z,hx⟩:=zak8 h3.2
     exact zaqh s p q f t x y z w hs hpq hf hx
   · have h4:(cutB 62 p).length≠2∨(cutB 44 q).length≠3:=by omega
     rw [zagl (zavf hpq h4)]
     exact zan8 s p q w hs hpq h4
 · rw [zagl (zaxd h2)]
   exact zaqg s w hs h2
end Go.Proofs.YthfoloefkfadlaaGreatDoor
