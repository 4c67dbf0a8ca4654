/- Walks: valid matrices (MatrixValid), determinants by the columns that are not used (impl.detFrom, impl.Det). -/
import Derived.Test.YthfoloefkfadlaaGreatDoorM0
import Derived.Test.YthfoloefkfadlaaGreatDoorP1
import Derived.Test.YthfoloefkfadlaaGreatDoorK1
import Derived.Test.YthfoloefkfadlaaGreatDoorK2
import Derived.Deep.RegionHeld3
import Derived.Deep.DeepCutAuto
set_option linter.unusedSimpArgs false
set_option linter.unusedVariables false
set_option maxHeartbeats 1000000
set_option maxRecDepth 100000
namespace Go.Proofs.YthfoloefkfadlaaGreatDoor
open Go Go.RowKit Go.Sort
theorem zajd (a:Option Addr) (c:Nat) (M:List (List Int)) (w:World) (hM:MatV M) (hs:Mat w a M):Calls Tryz.prog 175 #[.slice a M.length c] w fun e w'=>e=.returned (.bool true)∧Below w.heap.size w w':=by
 have HM:=Lib.hid hM;have h5:=hM.len;clear hM
 go_enter Tryz.func175,Tryz.ntmps175
 go_wp2_with fail
 go_loopw [3] (fun k wr=>∃ q:Nat,q≤M.length∧k=.int .i64 q∧Below w.heap.size w wr) (fun k _=>M.length - (intOf k).toNat)
 case atStart=>exact ⟨0,by omega,rfl,qBl⟩
 case round =>
  obtain ⟨q,hq,rfl,hb⟩:=hrel
  by_cases hlt:q<M.length
  · obtain ⟨b,off,ra,rc,rfl,hbw,e1,hrc,hrc2,hz⟩:=Mat.at (hs.below hb) hlt
    have hl:=HM.out.row _ (zaaf hlt);have hent:=HM.out.ent _ (zaaf hlt);obtain ⟨r,hr⟩:=qN (nth M q);rw [hr] at e1 hz hl hent;rw [hl] at e1;have HE:=Lib.hid hent;have HL:=Lib.hid hl;clear hr hrc hent hl;have hq2:(q:Int)<(M.length:Int):=qO;go_wp2_with fail
    go_loopw [4] (fun j w2=>∃ p:Nat,p≤M.length∧j=.int .i64 p∧Below wr.heap.size wr w2) (fun j _=>M.length - (intOf j).toNat)
    case atStart=>exact ⟨0,by omega,rfl,qBl⟩
    case round =>
     obtain ⟨p,hp,rfl,hb2⟩:=hrel;have e2:=(hb2.cell (p:=⟨b,off+q,none⟩) hbw).trans e1
     by_cases hlt2:p<M.length
     · obtain ⟨gb,go,rfl,hgb,e3⟩:=Zs.at (hz.below hb2) (k:=p) (by rw [HL.out];exact hlt2)
       have hx:=HE.out _ (zaaf (k:=p) (by rw [HL.out];exact hlt2));obtain ⟨x,hxe⟩:=qN (nth r p);rw [hxe] at e3 hx;clear hxe
       have hin:inB x (-999) 999=true:=by simp only [inB,Bool.and_eq_true,decide_eq_true_eq];omega
       have hp2:(p:Int)<(M.length:Int):=qO;go_wp2_with fail;refine (zaac x (-999) 999 _).mono ?_;rintro e w3 ⟨rfl,rfl⟩;rw [hin];go_wp2_with fail;go_roundw
       case rel=>exact ⟨p+1,by omega,by go_num,qBl⟩
       case measure=>simp [intOf];omega
     · obtain rfl:p=M.length:=by omega
       go_wp2_with fail;go_roundw
       case rel=>exact ⟨q+1,by omega,by go_num,hb.trans (hb2.mono hb.size)⟩
       case measure=>simp [intOf];omega
  · obtain rfl:q=M.length:=by omega
    have h6:(M.length:Int)≤5:=qO;go_wp2_with fail;go_ret
    exact ⟨by simp [h5],hb⟩
theorem zagg (a:Option Addr) (n c:Nat) (r:List Int) (w:World) (hl:r.length=n) (hn:n≤1000) (hE:∀ x ∈ r,-999≤x∧x≤999) (hs:Zs w a r):Calls Tryz.prog 188 #[.slice a n c] w fun e w'=>e=.returned (.bool true)∧Below w.heap.size w w':=by
 have HE:=Lib.hid hE;clear hE
 go_enter Tryz.func188,Tryz.ntmps188
 go_wp2_with fail
 go_loopw [7] (fun k wr=>∃ q:Nat,q≤n∧k=.int .i64 q∧Below w.heap.size w wr) (fun k _=>n - (intOf k).toNat)
 case atStart=>exact ⟨0,by omega,rfl,qBl⟩
 case round =>
  obtain ⟨q,hq,rfl,hb⟩:=hrel
  by_cases hlt:q<n
  · obtain ⟨gb,go,rfl,hgb,e3⟩:=Zs.at (hs.below hb) (k:=q) qO
    have hx:=HE.out _ (zaaf (k:=q) qO);obtain ⟨x,hxe⟩:=qN (nth r q);rw [hxe] at e3 hx;clear hxe
    have hin:isIn x 999=true:=by simp only [isIn,Bool.and_eq_true,decide_eq_true_eq];omega
    have hq2:(q:Int)<(n:Int):=qO;go_wp2_with fail;refine (zahs x 999 _ qO qO).mono ?_;rintro e w3 ⟨rfl,rfl⟩;rw [hin];go_wp2_with fail;go_roundw
    case rel=>exact ⟨q+1,by omega,by go_num,qBl⟩
    case measure=>simp [intOf];omega
  · obtain rfl:q=n:=by omega
    go_wp2_with fail;go_ret
    exact ⟨rfl,hb⟩
theorem zafo (a:Option Addr) (c:Nat) (M:List (List Int)) (w:World) (hM:MatV M) (hs:Mat w a M):Calls Tryz.prog 180 #[.slice a M.length c] w fun e w'=>e=.returned (.bool true)∧Below w.heap.size w w':=by
 have HM:=Lib.hid hM;have h5:=hM.len;clear hM
 go_enter Tryz.func180,Tryz.ntmps180
 go_wp2_with fail
 go_loopw [10] (fun k wr=>∃ q:Nat,q≤M.length∧k=.int .i64 q∧Below w.heap.size w wr) (fun k _=>M.length - (intOf k).toNat)
 case atStart=>exact ⟨0,by omega,rfl,qBl⟩
 case round =>
  obtain ⟨q,hq,rfl,hb⟩:=hrel
  by_cases hlt:q<M.length
  · obtain ⟨b,off,ra,rc,rfl,hbw,e1,hrc,hrc2,hz⟩:=Mat.at (hs.below hb) hlt
    have hl:=HM.out.row _ (zaaf hlt);have hent:=HM.out.ent _ (zaaf hlt);obtain ⟨r,hr⟩:=qN (nth M q);rw [hr] at e1 hz hl hent;rw [hl] at e1
    have i1:=fun w h=>zagg ra M.length rc r w hl qO hent h
    clear hr hrc hent hl;have hq2:(q:Int)<(M.length:Int):=qO;go_wp2_with fail;refine (i1 _ hz).mono ?_;rintro e w3 ⟨rfl,b3⟩;go_wp2_with fail;go_roundw
    case rel=>exact ⟨q+1,by omega,by go_num,hb.trans (b3.mono hb.size)⟩
    case measure=>simp [intOf];omega
  · obtain rfl:q=M.length:=by omega
    go_wp2_with fail;go_ret
    exact ⟨rfl,hb⟩
theorem s4995 {k:Nat} (h:k≤5):4995 ^ k≤3109406218765621875:=by
 have:k=0∨k=1∨k=2∨k=3∨k=4∨k=5:=qO
 rcases this with rfl|rfl|rfl|rfl|rfl|rfl <;> decide
theorem zat5 {u n:Nat} (hu:u<2 ^ n) (hn:n≤5):u<32:=Nat.lt_of_lt_of_le hu (zahj (k:=5) hn)
theorem zav3 {M:List (List Int)} {row:Nat} (h:row<M.length) (cs:List Nat):detC ((M.drop row).map nth) cs=exC (nth (nth M row)) (detC ((M.drop (row+1)).map nth)) [] cs:=by
 rw [zab3 h];rfl
theorem zaf6 (r:Nat→Int) (u:Nat) {q n:Nat} (h:q≤n):rowabs r (cols u 0 q)≤rowabs r (List.range' 0 n):=by
 obtain ⟨m,rfl⟩:∃ m,n=q+m:=⟨n - q,by omega⟩;have:=zais r u (q+m);rw [zafe,zab8] at this
 omega
theorem zaxq {m k n:Nat} (hm:m<2 ^ n) (hk:k<n):m ||| 2 ^ k<2 ^ n:=Nat.or_lt_two_pow hm (Nat.pow_lt_pow_right qO hk)
theorem zaj6 {x d:Int} {X K:Nat} (h1:x.natAbs≤X) (h2:d.natAbs≤K):(x*d).natAbs≤X*K:=by rw [Int.natAbs_mul];exact Nat.mul_le_mul h1 h2
theorem zaqy (a:Option Addr) (c:Nat) (M:List (List Int)) (hM:MatV M):∀ (k row used:Nat) (w:World),row+k=M.length→used<2 ^ M.length→(cols used 0 M.length).length=k→Mat w a M →
 Calls Tryz.prog 181 #[.slice a M.length c,.int .i64 (row:Int),.int .i64 (used:Int)] w fun e w'=>e=.returned (.int .i64 (detC ((M.drop row).map nth) (cols used 0 M.length)))∧Below w.heap.size w w':=by
 intro k;have h5:=hM.len
 induction k with
 | zero =>
   intro row used w hk hu hc hs;obtain rfl:row=M.length:=qO;have e:cols used 0 M.length=[]:=List.eq_nil_of_length_eq_zero hc;rw [e,List.drop_length];clear e hc hs hM
   go_enter Tryz.func181,Tryz.ntmps181
   go_wp2_with fail;go_ret
   exact ⟨rfl,qBl⟩
 | succ k ih =>
   intro row used w hk hu hc hs;have hrow:row<M.length:=qO;have hu5:=zat5 hu h5;obtain ⟨b,off,ra,rc,rfl,hbw,e1,hrc,hrc2,hz⟩:=Mat.at hs hrow;have hl:=hM.row _ (zaaf hrow);have hent:=hM.ent _ (zaaf hrow);have hT:=zav3 hrow (cols used 0 M.length);have hin:=hM.in;have hS:=hin.sum _ (zaaf hrow)
   have hKK:=fun u=>hin.det_le (row+1) u
   have hpow:4995*4995 ^ (M.length - (row+1))≤3109406218765621875:=by
    have:=s4995 (k:=M.length - (row+1)+1) qO;rw [Nat.pow_succ,Nat.mul_comm] at this;exact this
   obtain ⟨K,hKe⟩:=qN (4995 ^ (M.length - (row+1)));rw [hKe] at hKK hpow
   have ih2:=fun u w'=>ih (row+1) u w' qO
   obtain ⟨D,hD⟩:=qN (detC ((M.drop (row+1)).map nth));rw [hD] at hT;simp only [hD] at hKK ih2;obtain ⟨r,hr⟩:=qN (nth M row);rw [hr] at e1 hz hl hent hT hS;rw [hl] at e1;obtain ⟨T,hTe⟩:=qN (detC ((M.drop row).map nth) (cols used 0 M.length));rw [hTe] at hT ⊢;generalize hn:M.length=n at *;clear hn;have HT:=Lib.hid hT;have HE:=Lib.hid hent;have HL:=Lib.hid hl;have HS:=Lib.hid hS;have HK:=Lib.hid hKK;have HC:=Lib.hid hc;have HP:=Lib.hid hpow
   have HI:=Lib.hid (show ∀ (u:Nat) (w':World),u<2 ^ n→(cols u 0 n).length=k→Mat w' (some ⟨b,off,none⟩) M→Calls Tryz.prog 181 #[.slice (some ⟨b,off,none⟩) n c,.int .i64 ((row:Int)+1),.int .i64 (u:Int)] w' fun e w''=>e=.returned (.int .i64 (D (cols u 0 n)))∧Below w'.heap.size w' w'' from fun u w' h1 h2 h3=>by
    have:=ih2 u w' h1 h2 h3
    rwa [Int.natCast_add,Int.natCast_one] at this)
   clear hT hent hl hS hKK hc hpow ih ih2 hKe hD hr hTe hin hM hrc;have hr1:(row:Int)<(n:Int):=qO
   have hr2:((row:Int) == (n:Int))=false:=by simp;omega
   have hr3:IntKind.i64.wrap ((row:Int)+1)=(row:Int)+1:=IntWalk.i64_in _ qO
   go_enter Tryz.func181,Tryz.ntmps181
   go_wp2_with fail
   go_loopw [7,8,20] (fun sm sg i wr=>∃ (q:Nat) (x7 x8:Int),q≤n∧i=.int .i64 q∧sm=.int .i64 x7∧sg=.int .i64 x8∧Hid (DetAt (nth r) D (cols used 0 q) (cols used q (n - q)) T x7 x8 K)∧Below w.heap.size w wr) (fun _ _ i _=>n - (intOf i).toNat)
   case atStart=>exact ⟨0,0,1,by omega,rfl,rfl,rfl,by have:=DetAt.start (nth r) D (cols used 0 n) K;rw [← HT.out] at this;exact this,qBl⟩
   case round =>
    obtain ⟨q,x7,x8,hq,rfl,rfl,rfl,HD,hb⟩:=hrel
    by_cases hlt:q<n
    · obtain ⟨gb,go,rfl,hgb,e3⟩:=Zs.at (hz.below hb) (k:=q) (by rw [HL.out];exact hlt)
      have hx:=HE.out _ (zaaf (k:=q) (by rw [HL.out];exact hlt));have hbit:=zaxo used q qO;have hqn:n - q=(n - q - 1)+1:=qO;have hsg:=HD.out.sg;have hneg:IntKind.i64.wrap (-x8) = -x8:=IntWalk.i64_in _ qO;have hq2:(q:Int)<(n:Int):=qO;have hbd:=HD.out.bd;have hbd2:=zaf6 (nth r) used hq
      have hbd3:x7.natAbs≤3109406218765621875:=by
       have h1:=HS.out;have h2:rowabs (nth r) (cols used 0 q)*K≤4995*K:=Nat.mul_le_mul_right _ qO;have h3:=HP.out
       omega
      clear hbd hbd2
      cases ht:used.testBit q
      · rw [zaso ht] at hbit
        have HD1:=HD.out;rw [hqn,zafs ht] at HD1;have hpre:=zagh ht;have hq1:n - q - 1=n - (q+1):=qO;rw [hq1] at HD1;obtain ⟨x,hxe⟩:=qN (nth r q)
        by_cases hx0:x=0
        · subst hx0
          rw [hxe] at e3;have HN:=Lib.hid (HD1.zero hxe);rw [← hpre] at HN;clear HD1 hpre hxe hx hqn hq1 HD;have hx1:((0:Int) != 0)=false:=rfl;go_wp2_with fail;go_roundw
          case rel=>exact ⟨q+1,x7,-x8,by omega,by go_num,rfl,rfl,HN,hb⟩
          case measure=>simp [intOf];omega
        · have hct:=zamk hlt ht
          have hcl:=zawe hlt ht;rw [Nat.one_shiftLeft] at hct hcl
          have hDK:=HK.out (used ||| 2 ^ q)
          rw [hct,hq1] at hDK;have HN0:=HD1.next hDK;rw [← hpre] at HN0
          have HI2:=fun w'=>HI.out (used ||| 2 ^ q) w' (zaxq hu hlt) (by have:=HC.out;omega)
          rw [hct,hq1] at HI2;obtain ⟨d,hd⟩:=qN (D (cols used 0 q ++ cols used (q+1) (n - (q+1))));simp only [hd] at HI2 hDK;rw [hd,hxe] at HN0;rw [hxe] at e3 hx;have HN:=Lib.hid HN0;have hs1:=HN0.bd;have hs2:=zaf6 (nth r) used (q:=q+1) (n:=n) qO
          have hs3:(x7+x8*x*d).natAbs≤3109406218765621875:=by
           have h1:=HS.out;have h2:rowabs (nth r) (cols used 0 (q+1))*K≤4995*K:=Nat.mul_le_mul_right _ qO;have h3:=HP.out
           omega
          have hm1:(x8*x).natAbs≤999:=by rw [zaf7 hsg];omega
          have hm2:(x8*x*d).natAbs≤3109406218765621875:=by
           have h1:=zaj6 hm1 hDK;have h2:999*K≤4995*K:=Nat.mul_le_mul_right _ qO;have h3:=HP.out
           omega
          have hw1:IntKind.i64.wrap (x8*x)=x8*x:=IntWalk.i64_in _ qO;have hw2:IntKind.i64.wrap (x8*x*d)=x8*x*d:=IntWalk.i64_in _ qO;have hw3:IntKind.i64.wrap (x7+x8*x*d)=x7+x8*x*d:=IntWalk.i64_in _ qO;have hsh:=zavy (n:=q) qO;have hor:=zaqv used (2 ^ q) qO (by have:=zahj (n:=q) (k:=8) qO;omega);simp only [Int.natCast_pow,Int.cast_ofNat_Int] at hor
          have hx1:(x != 0)=true:=by simp [hx0]
          have HI3:=Lib.hid HI2;clear HD1 hpre hxe hx hqn hq1 HD hct hcl hDK HN0 hd HI2 hs1 hs2 hs3 hm1 hm2;go_wp2_with fail;refine (HI3.out _ (hs.below hb)).mono ?_;rintro e w3 ⟨rfl,b3⟩;go_wp2_with fail;go_roundw
          case rel=>exact ⟨q+1,x7+x8*x*d,-x8,by omega,by go_num,rfl,rfl,HN,hb.trans (b3.mono hb.size)⟩
          case measure=>simp [intOf];omega
      · rw [zat1 ht] at hbit
        have HN0:=HD.out;rw [hqn,zahm ht,← zalp ht,show n - q - 1=n - (q+1) by omega] at HN0;have HN:=Lib.hid HN0;clear HN0 HD hqn;go_wp2_with fail;go_roundw
        case rel=>exact ⟨q+1,x7,x8,by omega,by go_num,rfl,rfl,HN,hb⟩
        case measure=>simp [intOf];omega
    · obtain rfl:q=n:=by omega
      have HN0:=HD.out;rw [Nat.sub_self,zafr] at HN0;obtain rfl:=HN0.done;clear HN0 HD;go_wp2_with fail;go_ret
      exact ⟨rfl,hb⟩
theorem zalk (a:Option Addr) (c:Nat) (M:List (List Int)) (w:World) (hM:MatV M) (hs:Mat w a M):Calls Tryz.prog 150 #[.slice a M.length c] w fun e w'=>e=.returned (.int .i64 (detL M))∧Below w.heap.size w w':=by
 have i1:=fun w h=>zafo a c M w hM h
 have i2:=fun w h=>zaqy a c M hM M.length 0 0 w qO (Nat.two_pow_pos _) (zano _) h
 rw [zahn,List.drop_zero] at i2
 have i3:∀ w,Mat w a M→Calls Tryz.prog 181 #[.slice a M.length c,.int .i64 0,.int .i64 0] w fun e w'=>e=.returned (.int .i64 (detL M))∧Below w.heap.size w w':=i2
 clear i2
 go_enter Tryz.func150,Tryz.ntmps150
 go_wp2_with fail;refine (i1 _ hs).mono ?_;rintro e w1 ⟨rfl,b1⟩;go_wp2_with fail;refine (i3 _ (hs.below b1)).mono ?_;rintro e w2 ⟨rfl,b2⟩;go_wp2_with fail;go_ret
 exact ⟨rfl,b1.trans (b2.mono b1.size)⟩
set_option maxHeartbeats 2000000
theorem zagt (a m:Nat):cols 0 a m=List.range' a m:=by
 unfold cols;rw [List.filter_eq_self];intro j _
 simp
theorem zaqz (b off c n:Nat) (r0:List Int) (Ms:List (List Int)) (k:Nat) (w:World) (hM:MatV (r0 :: Ms)) (hnM:Ms.length+1=n) (hk:k<n) (hs:Mat w (some ⟨b,off,none⟩) (r0 :: Ms)) :
 Calls Tryz.prog 208 #[.slice (some ⟨b,off,none⟩) n c,.int .i64 0,.int .i64 (k:Int)] w fun e w'=>∃ v hs',e=.returned v∧MatO w' w.heap.size v hs' (Ms.map (cutCol k))∧Below w.heap.size w w':=by
 have HM:=Lib.hid hM;have h5:Ms.length+1≤5:=hM.len;have hn':n≤5:=qO;clear hM h5
 go_enter Tryz.func208,Tryz.ntmps208
 go_wp2_with fail
 go_loopw [7,8] (fun v i wr=>∃ (q:Nat) (hd:List Hd),q≤n∧i=.int .i64 q∧MatO wr w.heap.size v hd ((Ms.take (q - 1)).map (cutCol k))∧Below w.heap.size w wr) (fun _ i _=>n - (intOf i).toNat)
 case atStart=>exact ⟨0,[],by omega,rfl,by simpa using MatO.lit w w.heap.size (Nat.le_refl _),qBl⟩
 case round =>
  obtain ⟨q,hd,hq,rfl,ho,hb⟩:=hrel;obtain ⟨L,hL⟩:=qN ((Ms.take (q - 1)).map (cutCol k));rw [hL] at ho
  have hLl:L.length≤10:=by rw [← hL];simp;omega
  have HLH:=Lib.hid hL;clear hL;obtain ⟨av,cv,rfl⟩:=ho.sl;have hol:=ho.len
  by_cases hlt:q<n
  · have hq2:(q:Int)<(n:Int):=by omega
    by_cases h0:q=0
    · subst h0
      have hne:(((0:Nat):Int) != 0)=false:=rfl;go_wp2_with fail;go_roundw
      case rel=>exact ⟨1,hd,by omega,by first|rfl|go_num,by have e:L=(Ms.take (1 - 1)).map (cutCol k):=HLH.out.symm;rw [← e];exact ho,hb⟩
      case measure=>simp [intOf] <;> omega
    · obtain ⟨i,hiq⟩:∃ i,q=i+1:=⟨q - 1,by omega⟩
      have hne:((q:Int) != 0)=true:=by simp;omega
      have hi:i<Ms.length:=qO;obtain ⟨b',off',ra,rc,e0,hbw,e1,hrc,hrc2,hz⟩:=Mat.at (hs.below hb) (k:=q) (by simp;omega)
      cases e0
      obtain ⟨hbw0,-⟩:b<w.heap.size∧True:=by
       obtain ⟨b'',off'',_,_,e0,hbw0,_⟩:=Mat.at hs (k:=q) (by simp;omega)
       cases e0
       exact ⟨hbw0,trivial⟩
      have hrow:nth (r0 :: Ms) q=nth Ms i:=by rw [hiq];simp [nth]
      have hl:(nth Ms i).length=Ms.length+1:=by
       have:=HM.out.row (nth Ms i) (by simp [zaaf hi])
       simpa using this
      have htk:(Ms.take (i+1)).map (cutCol k)=(Ms.take i).map (cutCol k) ++ [cutCol k (nth Ms i)]:=by rw [zabc hi,List.map_append];rfl
      rw [hrow] at e1 hz hrc;rw [show q - 1=i by omega] at HLH;rw [HLH.out] at htk;obtain ⟨r,hr⟩:=qN (nth Ms i);rw [hr] at e1 hz hl htk hrc;rw [hl] at e1 hrc;obtain ⟨gb,go,rfl,hgb,-⟩:=Zs.at hz (k:=k) qO;have HTK:=Lib.hid htk;obtain ⟨p,hp⟩:=qM (r.take k)
      have HPL:Hid (p.length=k):=by show _=_;rw [hp];simp;omega
      obtain ⟨t,ht⟩:=qM (r.drop (k+1))
      have HQL:Hid (t.length=n - (k+1)):=by show _=_;rw [ht];simp;omega
      obtain ⟨zs,hzs⟩:=qN (cutCol k r)
      have HPQ:Hid (p ++ t=zs):=by show _=_;rw [hp,ht];exact hzs
      have hzl:zs.length≤10:=by rw [← hzs];have:=zakc (k:=k) (r:=r) qO;omega
      obtain ⟨A,HA,hrq⟩:∃ A:Addr,Hid ((if rc=k+1 then (some ⟨gb,go,none⟩:Option Addr) else some ⟨gb,go+(k+1),none⟩)=some A)∧Zs wr (some A) t:=by
       by_cases h:rc=k+1
       · exact ⟨_,by show _=_;rw [if_pos h],.inl (by rw [ht];exact List.drop_eq_nil_of_le qO)⟩
       · exact ⟨_,by show _=_;rw [if_neg h],by rw [ht];have:=hz.drop (k+1);rwa [show (k+1)*intK.sz=k+1 from Nat.mul_one _] at this⟩
      have hrp:Zs wr (some ⟨gb,go,none⟩) p:=by rw [hp];exact hz.take k
      rw [hzs] at HTK;rw [hnM] at e1 hrc;have hiw:IntKind.i64.wrap ((k:Int)+1)=(k:Int)+1:=IntWalk.i64_in _ qO;have hb1:(0:Int)≤(k:Int)+1:=qO;have htn:((k:Int)+1).toNat=k+1:=qO;have hb5:k≤rc:=qO;have hb6:k+1≤rc:=qO;have hb7:k+1≤n:=qO;have hb8:(k:Int)+1≤(n:Int):=qO;have HIQ:=Lib.hid hiq;clear hr htk hp ht hzs hz hrow hl hiq hi h0 hnM;have hsz:=hb.size;go_upto_region 6 with fail
      go_region_held3 (fun w'=>w'.cell? ⟨b,off+q,none⟩=some (.slice (some ⟨gb,go,none⟩) n rc)) (first|assumption|go_keep)
       (first
       | (refine zaa6 intI (.tmp 20) (.tmp 26) (by rfl) (by rfl) wr.heap.size _ [] p p rfl k HPL.out (some ⟨gb,go,none⟩) rc (by rfl) (KOwn.lit _ _ qSo) (by rfl) (hrp.below qHb) qP (by rw [HPL.out];omega) qSo ?_;rintro av1 cv1 w5 o5 - b5;have b45:Below wr.heap.size wr w5:=Below.trans qHb b5;have s1:=(b45.cell (p:=⟨b,off+q,none⟩) hbw).trans e1;clear b5)
       | (refine zaa6 intI (.tmp 27) (.tmp 34) (by rfl) (by rfl) wr.heap.size _ p t zs HPQ.out (n - (k+1)) HQL.out (some A) (rc - (k+1)) (by rfl) o5 (by simp [Act.eval,Act.put,HA.out]) (hrq.below b45) (by rw [HPL.out];omega) (by rw [HQL.out];omega) b45.size ?_;rintro az cz w6 o6 - b6;have b46:Below wr.heap.size wr w6:=b45.trans b6;have s2:=(b46.cell (p:=⟨b,off+q,none⟩) hbw).trans e1;clear b6)
       | (refine zaen hdI (.tmp 19) (.tmp 36) (by rfl) (by rfl) w.heap.size _ hd [⟨az,zs.length,cz⟩] (some ⟨w6.heap.size,0,none⟩) 1 (by rfl) ((ho.own.below b46).alloc _) (by rfl) (zaop w6 ⟨az,zs.length,cz⟩ _) qO qP (Nat.le_trans hsz (Nat.le_trans b46.size qP)) ?_;rintro av7 cv7 w7 o7 g7 b7 h7;have s3:=(b7.cell (p:=⟨b,off+q,none⟩) hbw0).trans ((((Below.refl w6.heap.size w6).alloc (Nat.le_refl _) _).cell (p:=⟨b,off+q,none⟩) (Nat.lt_of_lt_of_le hbw b46.size)).trans s2)))
      all_goals
       go_wp2_with fail;go_roundw
       case rel =>
        have hall:Below wr.heap.size wr (w6.alloc (.cells #[.slice az zs.length cz] 150)):=b46.alloc b46.size _;have hoA:=ho.below hall
        have hln:(hd ++ [(⟨az,zs.length,cz⟩:Hd)]).length=L.length+1:=by simp [hol]
        rw [hln] at o7 h7;have hr6:OwnZ (w6.alloc (.cells #[.slice az zs.length cz] 150)) wr.heap.size (.slice az zs.length cz) zs:=o6.alloc _
        refine ⟨q+1,hd ++ [⟨az,zs.length,cz⟩],by omega,by first|rfl|go_num,?_,hb.trans ((hall.mono hsz).trans b7)⟩
        rw [show q+1 - 1=i+1 by have:=HIQ.out;omega,HTK.out]
        refine hoA.more o7 g7 (hr6.mono hsz) h7 fun x hx=>?_
        have h1:wr.heap.size≤x:=(hr6.lt hx).1
        exact ⟨fun e=>by have:=(ho.own.lt e).2;omega,fun j hj e=>by have:=((ho.row j hj).lt e).2;omega⟩
       case measure=>simp [intOf];omega
  · obtain rfl:q=n:=by omega
    have hq1:q - 1=Ms.length:=qO;go_wp2_with fail;go_ret
    exact ⟨_,hd,rfl,by have e:=HLH.out;rw [hq1,List.take_length] at e;rw [e];exact ho,hb⟩
set_option maxHeartbeats 1000000
theorem MatV.cut {r:List Int} {M:List (List Int)} (h:MatV (r :: M)) {k:Nat} (hk:k<M.length+1):MatV (M.map (cutCol k)):=by
 refine ⟨by have:=h.len;simp at this ⊢;omega,(h.in.cut hk).1.row,fun y hy x hx=>?_⟩
 obtain ⟨z,hz,rfl⟩:=List.mem_map.1 hy;refine h.ent z (by simp [hz]) x ?_
 rcases List.mem_append.1 hx with e|e
 · exact List.mem_of_mem_take e
 · exact List.mem_of_mem_drop e
theorem zat6 (r:List Int) (M:List (List Int)):detL (r :: M)=exC (nth r) (detC (M.map nth)) [] (cols 0 0 (M.length+1)):=by
 rw [zagt];rfl
theorem zasq:∀ (m:Nat) (a:Option Addr) (c:Nat) (M:List (List Int)) (w:World),M.length=m→MatV M→Mat w a M →
 Calls Tryz.prog 176 #[.slice a m c] w fun e w'=>e=.returned (.int .i64 (detL M))∧Below w.heap.size w w':=by
 intro m
 induction m with
 | zero =>
   intro a c M w hm hM hs;obtain rfl:=List.eq_nil_of_length_eq_zero hm;clear hs hM
   go_enter Tryz.func176,Tryz.ntmps176
   go_wp2_with fail;go_ret
   exact ⟨rfl,qBl⟩
 | succ m ih =>
   intro a c M w hm hM hs
   obtain ⟨r,Ms,rfl⟩:∃ r Ms,M=r :: Ms:=by
    cases M with
    | nil=>simp at hm
    | cons r Ms=>exact ⟨r,Ms,rfl⟩
   have hmm:Ms.length=m:=by simpa using hm
   have h5:m+1≤5:=by have:=hM.len;omega
   obtain ⟨b,off,ra,rc,rfl,hbw,e1,hrc,hrc2,hz⟩:=Mat.at hs (k:=0) qP;have hr0:nth (r :: Ms) 0=r:=rfl;rw [hr0] at e1 hrc hz;rw [Nat.add_zero] at e1
   have hl:r.length=m+1:=by have:=hM.row r qP;simpa [hmm] using this
   rw [hl] at e1;have hent:=hM.ent r qP;have hT:=zat6 r Ms;have hin:=hM.in;have hS:=hin.sum r qP
   have hKK:=fun u=>hin.det_le 1 u
   have hlen:(r :: Ms).length=m+1:=by simp [hmm]
   rw [hlen] at hS
   have hKK2:∀ q,q<m+1→(detL (Ms.map (cutCol q))).natAbs≤4995 ^ m:=fun q hq=>by
    have:=(hin.cut (k:=q) qO).1.le
    simpa [hmm] using this
   have hcut:∀ q,q<m+1→detC (Ms.map nth) (cols 0 0 q ++ cols 0 (q+1) (m+1 - (q+1)))=detL (Ms.map (cutCol q)):=fun q hq=>by
    have:=(hin.cut (k:=q) qO).2;rw [hmm] at this;rw [zagt,zagt,this,show m+1 - (q+1)=m+1 - q - 1 by omega]
   have hpow:4995*4995 ^ m≤3109406218765621875:=by
    have:=s4995 (k:=m+1) qO;rw [Nat.pow_succ,Nat.mul_comm] at this;exact this
   obtain ⟨K,hKe⟩:=qN (4995 ^ m);rw [hKe] at hKK2 hpow;obtain ⟨T,hTe⟩:=qN (detL (r :: Ms));rw [hTe] at hT ⊢;rw [hmm] at hT;obtain ⟨D,hD⟩:=qN (detC (Ms.map nth));simp only [hD] at hT hcut
   have HMI:=Lib.hid (show ∀ (q:Nat) (w':World),q<m+1→Mat w' (some ⟨b,off,none⟩) (r :: Ms)→Calls Tryz.prog 208 #[.slice (some ⟨b,off,none⟩) (m+1) c,.int .i64 0,.int .i64 (q:Int)] w' fun e w''=>∃ v hs',e=.returned v∧MatO w'' w'.heap.size v hs' (Ms.map (cutCol q))∧Below w'.heap.size w' w'' from fun q w' hq h =>
    zaqz b off c (m+1) r Ms q w' hM qO hq h)
   have HID:=Lib.hid (show ∀ (q:Nat) (a':Option Addr) (c':Nat) (w':World),q<m+1→Mat w' a' (Ms.map (cutCol q))→Calls Tryz.prog 176 #[.slice a' m c'] w' fun e w''=>e=.returned (.int .i64 (detL (Ms.map (cutCol q))))∧Below w'.heap.size w' w'' from fun q a' c' w' hq h =>
    ih a' c' (Ms.map (cutCol q)) w' (by simp [hmm]) (hM.cut qO) h)
   have HML:Hid (∀ q,(Ms.map (cutCol q)).length=m):=fun q=>by simp [hmm]
   have HT:=Lib.hid hT;have HE:=Lib.hid hent;have HL:=Lib.hid hl;have HS:=Lib.hid hS;have HK:=Lib.hid hKK2;have HC:=Lib.hid hcut;have HP:=Lib.hid hpow;clear hT hent hl hS hKK hKK2 hcut hpow ih hKe hD hTe hin hM hrc hlen hr0 hmm hm;generalize hn:m+1=n at *;have h0n:(0:Int)<(n:Int):=qO;have h0m:0<n:=qO
   have hn0:((n:Int) == 0)=false:=by simp;omega
   have HN1:=Lib.hid hn;clear hn
   go_enter Tryz.func176,Tryz.ntmps176
   go_wp2_with fail
   go_loopw [3,4,5] (fun sm sg i wr=>∃ (q:Nat) (x7 x8:Int),q≤n∧i=.int .i64 q∧sm=.int .i64 x7∧sg=.int .i64 x8∧Hid (DetAt (nth r) D (cols 0 0 q) (cols 0 q (n - q)) T x7 x8 K)∧Below w.heap.size w wr) (fun _ _ i _=>n - (intOf i).toNat)
   case atStart=>exact ⟨0,0,1,by omega,rfl,rfl,rfl,by have:=DetAt.start (nth r) D (cols 0 0 n) K;rw [← HT.out] at this;exact this,qBl⟩
   case round =>
    obtain ⟨q,x7,x8,hq,rfl,rfl,rfl,HD,hb⟩:=hrel
    by_cases hlt:q<n
    · obtain ⟨gb,go,rfl,hgb,e3⟩:=Zs.at (hz.below hb) (k:=q) (by rw [HL.out];exact hlt)
      have e2:=(hb.cell (p:=⟨b,off,none⟩) hbw).trans e1;have hbr:b<wr.heap.size:=Nat.lt_of_lt_of_le hbw hb.size;have hx:=HE.out _ (zaaf (k:=q) (by rw [HL.out];exact hlt));have hqn:n - q=(n - q - 1)+1:=qO;have hsg:=HD.out.sg;have hneg:IntKind.i64.wrap (-x8) = -x8:=IntWalk.i64_in _ qO;have hq2:(q:Int)<(n:Int):=qO;have HD1:=HD.out;have ht:(0:Nat).testBit q=false:=Nat.zero_testBit q;rw [hqn,zafs ht] at HD1;have hpre:=zagh ht;have hq1:n - q - 1=n - (q+1):=qO;rw [hq1] at HD1;obtain ⟨x,hxe⟩:=qN (nth r q)
      by_cases hx0:x=0
      · subst hx0
        rw [hxe] at e3;have HN:=Lib.hid (HD1.zero hxe);rw [← hpre] at HN;clear HD1 hpre hxe hx hqn hq1 HD;have hx1:((0:Int) != 0)=false:=rfl;go_wp2_with fail;go_roundw
        case rel=>exact ⟨q+1,x7,-x8,by omega,by go_num,rfl,rfl,HN,hb⟩
        case measure=>simp [intOf];omega
      · have hDK:=HK.out q hlt
        have hcq:=HC.out q hlt;have HN0:=HD1.next (by rw [hcq];exact hDK);rw [← hpre,hcq] at HN0
        have HI2:=fun a' c' w'=>HID.out q a' c' w' hlt
        obtain ⟨d,hd⟩:=qN (detL (Ms.map (cutCol q)));simp only [hd] at HI2 hDK;rw [hd,hxe] at HN0;rw [hxe] at e3 hx;have HN:=Lib.hid HN0;have hs1:=HN0.bd;have hs2:=zaf6 (nth r) 0 (q:=q+1) (n:=n) qO
        have hs3:(x7+x8*x*d).natAbs≤3109406218765621875:=by
         have h1:=HS.out;have h2:rowabs (nth r) (cols 0 0 (q+1))*K≤4995*K:=Nat.mul_le_mul_right _ qO;have h3:=HP.out
         omega
        have hm1:(x8*x).natAbs≤999:=by rw [zaf7 hsg];omega
        have hm2:(x8*x*d).natAbs≤3109406218765621875:=by
         have h1:=zaj6 hm1 hDK;have h2:999*K≤4995*K:=Nat.mul_le_mul_right _ qO;have h3:=HP.out
         omega
        have hw1:IntKind.i64.wrap (x8*x)=x8*x:=IntWalk.i64_in _ qO;have hw2:IntKind.i64.wrap (x8*x*d)=x8*x*d:=IntWalk.i64_in _ qO;have hw3:IntKind.i64.wrap (x7+x8*x*d)=x7+x8*x*d:=IntWalk.i64_in _ qO
        have hx1:(x != 0)=true:=by simp [hx0]
        have HI3:=Lib.hid HI2
        have HM3:=Lib.hid (fun w'=>HMI.out q w' hlt)
        have hsr:=hs.below hb;have hlm:=HML.out q;clear HD1 hpre hxe hx hqn hq1 HD hDK hcq HN0 hd HI2 hs1 hs2 hs3 hm1 hm2 ht;have HLM:=Lib.hid hlm;clear hlm;go_upto_region 9 with fail
        go_region_held3 (fun w'=>Below wr.heap.size wr w'∧∀ b o,b<wr.heap.size→w'.cell? ⟨b,o,none⟩=wr.cell? ⟨b,o,none⟩) (exact kept qHb)
         (first
         | (go_at_call 208;refine (HM3.out _ (hsr.below qHb)).mono ?_;rintro e w3 ⟨v3,h3,rfl,o3,b3⟩;obtain ⟨a3,c3,rfl⟩:=o3.sl;rw [HLM.out] at o3;rw [HLM.out];have B3:=zaae (V:=wr) qHb b3;have z3:=B3.size;clear b3)
         | (go_at_call 176;refine (HI3.out _ _ _ (o3.rd.below qHb)).mono ?_;rintro e w4 ⟨rfl,b4⟩;have B4:=zaae (V:=wr) qHb b4;have z4:=B4.size;clear b4))
        all_goals
         go_wp2_with fail;go_roundw
         case rel=>exact ⟨q+1,x7+x8*x*d,-x8,by omega,by go_num,rfl,rfl,HN,hb.trans (Below.mono qHb hb.size)⟩
         case measure=>simp [intOf];omega
    · obtain rfl:q=n:=by omega
      have HN0:=HD.out;rw [Nat.sub_self,zafr] at HN0;obtain rfl:=HN0.done;clear HN0 HD;go_wp2_with fail;go_ret
      exact ⟨rfl,hb⟩
theorem zaje (a:Option Addr) (c:Nat) (M:List (List Int)) (w:World) (hM:MatV M) (hs:Mat w a M):Calls Tryz.prog 146 #[.slice a M.length c] w fun e w'=>e=.returned (.int .i64 (detL M))∧Below w.heap.size w w':=by
 have i1:=fun w h=>zajd a c M w hM h
 have i2:=fun w h=>zasq M.length a c M w rfl hM h
 go_enter Tryz.func146,Tryz.ntmps146
 go_wp2_with fail;refine (i1 _ hs).mono ?_;rintro e w1 ⟨rfl,b1⟩;go_wp2_with fail;refine (i2 _ (hs.below b1)).mono ?_;rintro e w2 ⟨rfl,b2⟩;go_wp2_with fail;go_ret
 exact ⟨rfl,b1.trans (b2.mono b1.size)⟩
def matF (m:Nat) (F:Nat→Nat→Int):List (List Int):=(List.range m).map fun i=>(List.range m).map (F i)
theorem zacn (m:Nat) (F:Nat→Nat→Int):(matF m F).length=m:=by simp [matF]
theorem zafb {m i:Nat} (F:Nat→Nat→Int) (h:i<m):nth (matF m F) i=(List.range m).map (F i):=by simp [matF,nth,h]
theorem zade {m i:Nat} (F:Nat→Nat→Int) (h:i<m):(nth (matF m F) i).length=m:=by rw [zafb F h];simp
theorem zaxr {m i j:Nat} (F:Nat→Nat→Int) (hi:i<m) (hj:j<m):nth (nth (matF m F) i) j=F i j:=by rw [zafb F hi];simp [nth,hj]
theorem zasr {m:Nat} {F G:Nat→Nat→Int} (h:∀ i j,i<m→j<m→F i j=G i j):matF m F=matF m G:=by
 unfold matF
 refine List.map_congr_left fun i hi=>List.map_congr_left fun j hj=>h i j (List.mem_range.1 hi) (List.mem_range.1 hj)
def updF (F:Nat→Nat→Int) (r c:Nat) (x:Int):Nat→Nat→Int:=fun i j=>if i=r∧j=c then x else F i j
theorem zav4 {m r c:Nat} (F:Nat→Nat→Int) (hr:r<m) (x:Int):(matF m F).set r ((nth (matF m F) r).set c x)=matF m (updF F r c x):=by
 refine zabf (by simp [matF]) fun i hi=>?_
 have him:i<m:=by simpa [matF] using hi
 rw [zaav (by rw [zacn];exact him),zafb (updF F r c x) him]
 by_cases e:r=i
 · subst e
   rw [if_pos rfl,zafb F hr]
   refine zabf qP fun j hj=>?_
   have hjm:j<m:=by simpa using hj
   rw [zaav (by simpa using hjm)]
   have e1:nth ((List.range m).map (F r)) j=F r j:=by simp [nth,hjm]
   have e2:nth ((List.range m).map (updF F r c x r)) j=updF F r c x r j:=by simp [nth,hjm]
   rw [e1,e2];unfold updF
   by_cases e:c=j
   · rw [if_pos e,if_pos ⟨rfl,e.symm⟩]
   · rw [if_neg e,if_neg (fun h=>e h.2.symm)]
 · rw [if_neg e,zafb F him]
   refine List.map_congr_left fun j _=>?_
   unfold updF
   rw [if_neg (fun h=>e h.1.symm)]
theorem MatO.putF {w:World} {B:Nat} {v:Value} {hs:List Hd} {m:Nat} {F:Nat→Nat→Int} (h:MatO w B v hs (matF m F)) {r c g n cc:Nat} (hr:r<m) (hc:c<m) (he:nth hs r=⟨some ⟨g,0,none⟩,n,cc⟩) (x:Int) :
 MatO (w.setCell ⟨g,c,none⟩ (.int .i64 x)) B v hs (matF m (updF F r c x)):=by
 have:=h.put (k:=r) (j:=c) (by rw [zacn];exact hr) (by rw [zade F hr];exact hc) he x
 rwa [zav4 F hr] at this
theorem MatO.row_at {w:World} {B:Nat} {v:Value} {hs:List Hd} {m:Nat} {F:Nat→Nat→Int} (h:MatO w B v hs (matF m F)) {r:Nat} (hr:r<m) :
 ∃ g cc,nth hs r=⟨some ⟨g,0,none⟩,m,cc⟩∧B≤g∧g<w.heap.size∧(∀ j,j<m→w.cell? ⟨g,j,none⟩=some (.int .i64 (F r j)))∧∀ j,j<m→w.frozen? ⟨g,j,none⟩=false:=by
 obtain ⟨g,c,e,hB,hg,hc,-,-⟩:=h.cell (k:=r) (j:=0) (by rw [zacn];exact hr) (by rw [zade F hr];omega);rw [zade F hr] at e
 refine ⟨g,c,e,hB,hg,fun j hj=>?_,fun j hj=>?_⟩
 · obtain ⟨g',c',e',_,_,_,h1,_⟩:=h.cell (k:=r) (j:=j) (by rw [zacn];exact hr) (by rw [zade F hr];exact hj)
   rw [e] at e'
   injection e' with e1 e2 e3
   injection e1 with e1
   injection e1 with e1
   rw [e1,h1,zaxr F hr hj]
 · obtain ⟨g',c',e',_,_,_,_,h1⟩:=h.cell (k:=r) (j:=j) (by rw [zacn];exact hr) (by rw [zade F hr];exact hj)
   rw [e] at e'
   injection e' with e1 e2 e3
   injection e1 with e1
   injection e1 with e1
   rw [e1];exact h1
def sqM (n q:Nat):List (List Int):=(List.range n).map fun k=>if k<q then List.replicate n 0 else []
theorem zac4 (n q:Nat):(sqM n q).length=n:=by simp [sqM]
theorem zall {n q k:Nat} (h:k<n):nth (sqM n q) k=if k<q then List.replicate n 0 else []:=by simp [sqM,nth,h]
theorem zaxs {n q:Nat}:(sqM n q).set q (List.replicate n 0)=sqM n (q+1):=by
 refine zabf (by simp [sqM]) fun k hk=>?_
 have hk':k<n:=by simpa [sqM] using hk
 rw [zaav (by rw [zac4];exact hk'),zall hk',zall hk']
 by_cases e:q=k
 · rw [if_pos e,if_pos qO]
 · rw [if_neg e]
   by_cases e2:k<q
   · rw [if_pos e2,if_pos qO]
   · rw [if_neg e2,if_neg qO]
theorem zaxt (n:Nat):sqM n n=matF n (fun _ _=>0):=by
 unfold sqM matF
 refine List.map_congr_left fun k hk=>?_
 rw [if_pos (List.mem_range.1 hk)]
 refine zabf qP fun j hj=>?_
 have hj':j<n:=by simpa using hj
 simp [nth,hj']
theorem MatO.made (w:World) (B n:Nat) (hB:B≤w.heap.size) (hn:n≤1000):MatO (w.alloc (.cells (madeCells #[.slice none 0 0] n) 150)) B (.slice (some ⟨w.heap.size,0,none⟩) n n) (List.replicate n ⟨none,0,0⟩) (sqM n 0):=by
 have e:∀ k,k<n→nth (List.replicate n (⟨none,0,0⟩:Hd)) k=⟨none,0,0⟩:=fun k hk=>by simp [nth,hk]
 refine ⟨OwnH.made w B n hB qO,by simp [sqM],fun k hk=>?_,fun k hk b hb=>?_,fun j k hj hk b h1=>?_⟩
 · rw [zac4] at hk
   rw [e k hk,zall hk,if_neg qO]
   exact KOwn.nil
 · rw [zac4] at hk;rw [e k hk] at hb;cases hb
 · rw [zac4] at hj;rw [e j hj] at h1;cases h1
theorem zaoq (n:Nat) (w:World) (hn:n≤5):Calls Tryz.prog 182 #[.int .i64 (n:Int)] w fun e w'=>∃ p cp hs,e=.returned (.slice (some ⟨p,0,none⟩) n cp)∧MatO w' w.heap.size (.slice (some ⟨p,0,none⟩) n cp) hs (matF n fun _ _=>0)∧Below w.heap.size w w':=by
 have mr:=zaj5 n qO w
 have mi:=fun W=>zacm n qO W
 have nn:(0:Int)≤(n:Int):=qO
 go_enter Tryz.func182,Tryz.ntmps182
 go_wp2_with fail
 go_loopw [9] (fun i wr=>∃ (q:Nat) (hs:List Hd),q≤n∧i=.int .i64 q∧MatO wr w.heap.size (.slice (some ⟨w.heap.size,0,none⟩) n n) hs (sqM n q)∧Below w.heap.size w wr) (fun i _=>n - (intOf i).toNat)
 case atStart=>exact ⟨0,_,by omega,rfl,MatO.made w w.heap.size n (Nat.le_refl _) qO,qBl⟩
 case round =>
  obtain ⟨q,hs,hq,rfl,ho,hb⟩:=hrel
  by_cases hlt:q<n
  · have hq2:(q:Int)<(n:Int):=by omega
    obtain ⟨p,cp,e,hBp,hpw,hc,hf⟩:=ho.at (k:=q) (by rw [zac4];exact hlt);rw [zac4] at e
    cases e
    have hcl:=ho.len;rw [zac4] at hcl;have hne:w.heap.size≠wr.heap.size:=qO;go_wp2_with fail;go_roundw
    case rel =>
     have hz:=OwnZ.made wr wr.heap.size n (Nat.le_refl _) qO
     have hM:=(ho.below ((Below.refl _ _).alloc (Nat.le_refl _) (.cells (madeCells #[.int .i64 0] n) 3))).putRow (k:=q) (p:=w.heap.size) (cp:=n) (by rw [zac4];exact hlt) (by rw [zac4]) (x:=⟨some ⟨wr.heap.size,0,none⟩,n,n⟩) (r:=List.replicate n 0) (hz.mono hb.size) (fun b' h=>by
      have e:wr.heap.size=b':=by simpa [Hd.val,Value.ownBlock] using h
      subst e
      exact ⟨fun e2=>hne (by simpa [Value.ownBlock] using e2),fun j hj _ e2=>by have:=((ho.row j hj).lt e2).2;omega⟩)
     rw [zaxs,World.setCell_alloc_past _ _ _ _ hpw] at hM
     exact ⟨q+1,_,by omega,by go_num,hM,qBl⟩
    case measure=>simp [intOf];omega
  · obtain rfl:q=n:=by omega
    rw [zaxt] at ho;go_wp2_with fail;go_ret
    exact ⟨_,_,hs,rfl,ho,hb⟩
end Go.Proofs.YthfoloefkfadlaaGreatDoor
