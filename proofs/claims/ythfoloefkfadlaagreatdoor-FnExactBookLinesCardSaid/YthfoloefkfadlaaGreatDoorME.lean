/- Walks: the laws' helpers on lists of texts: size, copy, equality, marks, and that marks are held. What the rows of laws of lists of texts want: such a list, opened. -/
import Derived.Test.YthfoloefkfadlaaGreatDoorK3
import Derived.Test.YthfoloefkfadlaaGreatDoorMD
import Derived.Test.YthfoloefkfadlaaGreatDoorT1
import Derived.Test.YthfoloefkfadlaaGreatDoorK1
import Derived.Test.YthfoloefkfadlaaGreatDoorT2
import Derived.SliceStrings
set_option linter.unusedSimpArgs false
set_option linter.unusedVariables false
namespace Go.Proofs.YthfoloefkfadlaaGreatDoor
open Go Go.RowKit Go.Sort

def mkT (k:Nat):ByteArray:=if k=0 then ⟨#[109,48]⟩ else (⟨#[109]⟩:ByteArray) ++ decB k
def DecIn (u m:Nat) (s:ByteArray):Prop:=(0<m→decB m ++ s=decB u)∧(m=0→s=decB u)
theorem decB_one {m:Nat} (h:m<10):decB m=dig m:=by
 unfold decB dig
 rw [Lib.decDigits,dif_pos h]
theorem DecIn.next {u m:Nat} {s:ByteArray} (h:DecIn u m s) (hm:0<m):DecIn u (m / 10) (dig (m % 10) ++ s):=by
 have h1:=h.1 hm
 refine ⟨fun hq=>?_,fun hq=>?_⟩
 · rw [decB_step m (by omega)] at h1
   rw [← ByteArray.append_assoc];exact h1
 · have hl:m<10:=by omega
   rw [decB_one hl] at h1
   rw [Nat.mod_eq_of_lt hl];exact h1
theorem DecIn.size {u m:Nat} {s:ByteArray} (h:DecIn u m s) (hu:u≤1000000000000000):s.size≤21:=by
 have hz:=decB_size u hu
 by_cases hm:m=0
 · rw [h.2 hm];exact hz
 · have:=congrArg ByteArray.size (h.1 (by omega))
   rw [ByteArray.size_append] at this
   omega
set_option maxRecDepth 100000 in
set_option maxHeartbeats 1000000 in
theorem markText_nat (u:Nat) (hu:u≤400000000) (w:World) :
 Calls Tryz.prog 73 #[.int .i64 (u:Int)] w fun e w'=>e=.returned (.string (mkT u))∧Below w.heap.size w w':=by
 by_cases h0:u=0
 · subst h0
   go_enter Tryz.func73,Tryz.ntmps73
   go_wp2_with fail
   go_ret
   exact ⟨rfl,qBl⟩
 · have hpos:¬ ((u:Int)≤0):=by omega
   have HM:=Lib.hid (show mkT u=(⟨#[109]⟩:ByteArray) ++ decB u by unfold mkT;rw [if_neg h0])
   have hd0:DecIn u u ⟨#[]⟩:=⟨fun _=>by apply ByteArray.ext;simp,fun e=>absurd e h0⟩
   have HU:=Lib.hid hu
   go_enter Tryz.func73,Tryz.ntmps73
   go_wp2_with fail
   go_loopw [0,3] (fun k o wr=>∃ (m:Nat) (s:ByteArray),k=.int .i64 (m:Int)∧o=.string s∧m≤u∧DecIn u m s∧Below w.heap.size w wr) (fun k _ _=>(intOf k).toNat)
   case atStart=>exact ⟨u,_,rfl,rfl,Nat.le_refl _,hd0,Below.refl _ _⟩
   case round =>
    clear hd0 hpos h0 hu
    obtain ⟨m,s,rfl,rfl,hm,hd,hb⟩:=hrel
    have hu:=HU.out
    have hsz:=hd.size (by omega)
    by_cases hlt:0<m
    · obtain ⟨q,hq⟩:∃ q,q=m / 10:=⟨_,rfl⟩
      obtain ⟨r,hr⟩:∃ r,r=m % 10:=⟨_,rfl⟩
      have hn:=hd.next hlt
      have hr10:m % 10<10:=Nat.mod_lt _ (by decide)
      have hqm:m / 10<m:=Nat.div_lt_self hlt (by decide)
      have e1:(m:Int).tdiv 10=((m / 10:Nat):Int):=rfl
      have e2:(m:Int).tmod 10=((m % 10:Nat):Int):=rfl
      rw [← hq] at hn hqm e1
      rw [← hr] at hn hr10 e2
      have hs1:(dig r).size=1:=rfl
      have hw1:IntKind.i64.wrap ((48:Int)+(r:Int))=(48+(r:Int):Int):=by rw [IntKind.wrap_i64];omega
      have hw2:IntKind.i64.wrap (q:Int)=(q:Int):=by rw [IntKind.wrap_i64];omega
      have hw3:IntKind.u8.wrap ((48:Int)+(r:Int))=(48+(r:Int):Int):=by rw [IntKind.wrap_u8];omega
      have hw4:IntKind.i64.wrap (r:Int)=(r:Int):=by rw [IntKind.wrap_i64];omega
      have hpos:((m:Int) > 0):=by omega
      have k1:=fun (w':World)=>byteStr (w'.alloc (.cells #[.int .u8 (48+(r:Int))] 5)) w'.heap.size r hr10 (by simp)
      have n1:¬ 9223372036854775807<1+s.size:=by omega
      have HN:=Lib.hid hn
      have hqu:q≤u:=by omega
      have HQ:=Lib.hid hqm
      clear hq hr hn hd hqm hu
      go_wp2_with fail
      go_roundw
      case rel=>exact ⟨q,_,rfl,rfl,hqu,HN.out,hb.alloc hb.size _⟩
      case measure=>have:=HQ.out;simp [intOf];omega
    · obtain rfl:m=0:=by omega
      have he:=hd.2 rfl
      subst he
      have n1:¬ 9223372036854775807<1+(decB u).size:=by omega
      go_wp2_with fail
      go_ret
      exact ⟨by rw [HM.out];rfl,hb⟩
theorem markText_any (k:Int) (h0:0≤k) (h1:k≤400000000) (w:World) :
 Calls Tryz.prog 73 #[.int .i64 k] w fun e w'=>e=.returned (.string (mkT k.toNat))∧Below w.heap.size w w':=by
 have:=markText_nat k.toNat (by omega) w
 rwa [show ((k.toNat:Nat):Int)=k by omega] at this
def marksT (k:Int) (n:Nat):List ByteArray:=(List.range n).map fun (j:Nat)=>mkT (k+(j:Int)).toNat
theorem marksT_len (n:Nat) (k:Int):(marksT k n).length=n:=by simp [marksT]
theorem marksT_nth (n:Nat) (k:Int) (j:Nat) (h:j<n):nth (marksT k n) j=mkT (k+(j:Int)).toNat:=by simp [marksT,nth,h]

def szT:List ByteArray→Int→Int
 | [],left=>left
 | x :: l,left=>if left - x.size<0 then -1 else szT l (left - x.size)
def szU (l:List ByteArray) (left:Int):Int:=if left - l.length<0 then -1 else szT l (left - l.length)
theorem szT_range:∀ (l:List ByteArray) (left:Int),left≤1048576→0≤left→-1≤szT l left∧szT l left≤1048576
 | [],left,h,h0=>⟨by show -1≤left;omega,h⟩
 | x :: l,left,h,h0=>by
   unfold szT
   split
   · omega
   · exact szT_range l _ (by omega) (by omega)
theorem szT_le:∀ (l:List ByteArray) (left:Int),left≤1048576→¬ szT l left<0→∀ k,k<l.length→(nth l k).size≤1048576
 | [],_,_,_,k,hk=>by cases hk
 | x :: l,left,h,hz,k,hk=>by
   unfold szT at hz
   split at hz
   · exact absurd (by decide) hz
   · rename_i hx
     cases k with
     | zero=>show x.size≤_;omega
     | succ k=>exact szT_le l _ (by omega) hz k (by simpa using hk)
theorem szU_range (l:List ByteArray) (left:Int) (h:left≤1048576) : -1≤szU l left∧szU l left≤1048576:=by
 unfold szU
 split
 · omega
 · exact szT_range l _ (by omega) (by omega)
theorem szU_le {l:List ByteArray} {left:Int} (h1:left≤1048576) (h:¬ szU l left<0):l.length≤1048576∧∀ k,k<l.length→(nth l k).size≤1048576:=by
 unfold szU at h
 split at h
 · exact absurd (by decide) h
 · exact ⟨by omega,szT_le l _ (by omega) h⟩
theorem szT_drop (l:List ByteArray) (k:Nat) (left:Int) (hk:k<l.length):szT (l.drop k) left=if left - (nth l k).size<0 then -1 else szT (l.drop (k+1)) (left - (nth l k).size):=by
 rw [drop_nth hk,szT]
set_option maxHeartbeats 1000000 in
theorem szTexts_any (a:Option Addr) (c:Nat) (l:List ByteArray) (left:Int) (w:World) (hn:l.length≤9223372036854775807) (hz:∀ k,k<l.length→(nth l k).size≤9223372036854775807) (h0:0≤left) (h1:left≤1048576) (hs:Strs w a l) :
 Calls Tryz.prog 27 #[.slice a l.length c,.int .i64 left] w fun e w'=>e=.returned (.int .i64 (szU l left))∧w=w':=by
 by_cases h:left - l.length<0
 · go_enter Tryz.func27,Tryz.ntmps27
   go_wp2
   go_ret
   exact ⟨by unfold szU;rw [if_pos h];rfl,rfl⟩
 · have HE:=Lib.hid (show szU l left=szT (l.drop 0) (left - l.length) by unfold szU;rw [if_neg h];rfl)
   go_enter Tryz.func27,Tryz.ntmps27
   go_wp2_with fail
   go_loopw [1,5] (fun t i wr=>∃ (k:Nat) (m:Int),k≤l.length∧i=.int .i64 (k:Int)∧t=.int .i64 m∧0≤m∧m≤1048576∧szU l left=szT (l.drop k) m∧w=wr) (fun _ i _=>l.length - (intOf i).toNat)
   case atStart=>exact ⟨0,left - l.length,by omega,rfl,by first|rfl|go_num,by omega,by omega,HE.out,rfl⟩
   case round =>
    obtain ⟨k,m,hk,rfl,rfl,hm0,hm1,he,rfl⟩:=hrel
    clear h HE
    by_cases hlt:k<l.length
    · obtain ⟨b,off,rfl,hbw,m0⟩:=Strs.at hs hlt
      have hzk:=hz k hlt
      rw [szT_drop l k m hlt] at he
      clear hs hz
      by_cases hx:m - (nth l k).size<0
      · rw [if_pos hx] at he
        have HF:=Lib.hid he
        clear he
        go_wp2_with fail
        go_ret
        exact ⟨by rw [HF.out];rfl,rfl⟩
      · rw [if_neg hx] at he
        have HF:=Lib.hid he
        clear he
        go_wp2_with fail
        go_roundw
        case rel=>exact ⟨k+1,m - (nth l k).size,by omega,by go_num,by first|rfl|go_num,by omega,by omega,HF.out,by trivial⟩
        case measure=>simp [intOf] <;> omega
    · have e:k=l.length:=by omega
      subst e
      rw [List.drop_length] at he
      have HF:=Lib.hid he
      clear he
      go_wp2_with fail
      go_ret
      exact ⟨by rw [HF.out];rfl,rfl⟩
set_option maxHeartbeats 1000000 in
theorem toTexts_any (a:Option Addr) (c:Nat) (l:List ByteArray) (w:World) (hl:l.length≤1048576) (hs:Strs w a l) :
 Calls Tryz.prog 28 #[.slice a l.length c] w fun e w'=>∃ g,e=.returned (.slice (some ⟨g,0,none⟩) l.length l.length)∧OwnT w' w.heap.size (.slice (some ⟨g,0,none⟩) l.length l.length) l∧Below w.heap.size w w':=by
 have hmk:=fun W=>run_mkTexts l.length hl W
 have hnew:=OwnT.made w w.heap.size l.length (Nat.le_refl _) hl
 go_enter Tryz.func28,Tryz.ntmps28
 go_wp2_with fail
 clear hmk
 go_loopw [4] (fun i wr=>∃ k:Nat,k≤l.length∧i=.int .i64 (k:Int)∧OwnT wr w.heap.size (.slice (some ⟨w.heap.size,0,none⟩) l.length l.length) (l.take k ++ List.replicate (l.length - k) ByteArray.empty)∧Below w.heap.size w wr) (fun i _=>l.length - (intOf i).toNat)
 case atStart=>exact ⟨0,by omega,rfl,hnew,qBl⟩
 case round =>
  clear hnew
  obtain ⟨k,hk,rfl,ho,hb⟩:=hrel
  have hz:=hb.size
  have htl:(l.take k).length=k:=by rw [List.length_take];omega
  by_cases hlt:k<l.length
  · obtain ⟨b,off,rfl,hbw,m0⟩:=Strs.at (hs.below hb) hlt
    obtain ⟨-,-,hgw,cA,fA⟩:=OwnT.cellK ho (k:=k) (by rw [List.length_append,htl,List.length_replicate];omega)
    have h2:=ho.put (k:=k) (by rw [List.length_append,htl,List.length_replicate];omega) (nth l k)
    rw [texts_set htl hlt,← take_nth hlt] at h2
    have H2:=Lib.hid h2
    clear hs ho h2 htl
    go_wp2_with fail
    go_roundw
    case rel=>exact ⟨k+1,by omega,by go_num,H2.out,hb.setCell (p:=⟨w.heap.size,k,none⟩) (Nat.le_refl _) _⟩
    case measure=>simp [intOf] <;> omega
  · have e:k=l.length:=by omega
    subst e
    rw [List.take_length,Nat.sub_self,List.replicate_zero,List.append_nil] at ho
    clear htl
    go_wp2_with fail
    go_ret
    exact ⟨_,rfl,ho,hb⟩
set_option maxHeartbeats 1000000 in
theorem eqTexts_any (a1 a2:Option Addr) (c1 c2:Nat) (l:List ByteArray) (w:World) (hl:l.length≤1048580) (h1:Strs w a1 l) (h2:Strs w a2 l) :
 Calls Tryz.prog 29 #[.slice a1 l.length c1,.slice a2 l.length c2] w fun e w'=>e=.returned (.bool true)∧Below w.heap.size w w':=by
 have hne:((l.length:Int) != (l.length:Int))=false:=by simp
 go_enter Tryz.func29,Tryz.ntmps29
 go_wp2_with fail
 go_loopw [5] (fun i wr=>∃ k:Nat,k≤l.length∧i=.int .i64 k∧Below w.heap.size w wr) (fun i _=>l.length - (intOf i).toNat)
 case atStart=>exact ⟨0,by omega,rfl,Below.refl _ _⟩
 case round =>
  obtain ⟨k,hk,rfl,hb⟩:=hrel
  have hz:=hb.size
  by_cases hlt:k<l.length
  · obtain ⟨b,off,rfl,hbw,m0⟩:=Strs.at (h1.below hb) hlt
    obtain ⟨b',off',rfl,hbw',n0⟩:=Strs.at (h2.below hb) hlt
    clear h1 h2
    have hlt2:(k:Int)<(l.length:Int):=by omega
    go_upto_region 6 with fail
    go_big_quiet (fail)
    go_wp2_with fail
    go_roundw
    case rel=>exact ⟨k+1,by omega,by go_num,Below.trans hb (Below.mono (show Below wr.heap.size wr _ from qBl) hz)⟩
    case measure=>simp [intOf] <;> omega
  · go_wp2_with fail
    go_ret
    exact ⟨rfl,hb⟩
theorem marksT_set {l:List ByteArray} {j:Nat} (hj:j<l.length) (k:Int):(marksT k j ++ l.drop j).set j (mkT (k+(j:Int)).toNat)=marksT k (j+1) ++ l.drop (j+1):=by
 have e:marksT k (j+1)=marksT k j ++ [mkT (k+(j:Int)).toNat]:=by simp [marksT,List.range_succ]
 have h0:=marksT_len j k
 rw [drop_nth hj,e,List.set_append_right _ _ (by omega),h0,Nat.sub_self,List.set_cons_zero,List.append_assoc]
 rfl
set_option maxHeartbeats 2000000 in
theorem markTexts_any (B:Nat) (a:Option Addr) (c:Nat) (l:List ByteArray) (k:Int) (w:World) (hl:l.length≤1048580) (hk0:0≤k) (hk:k≤100000000) (ho:OwnT w B (.slice a l.length c) l) :
 Calls Tryz.prog 30 #[.slice a l.length c,.int .i64 k] w fun e w'=>e=.returned (.int .i64 (k+(l.length:Int)))∧OwnT w' B (.slice a l.length c) (marksT k l.length)∧Wr (fun j=>(Value.slice a l.length c).ownBlock=some j) w w':=by
 by_cases h0:0<l.length
 · obtain ⟨g,cap,f,e,hBg,hn,hm,hr,hf⟩:=KOwn.row ho h0
   cases e
   go_enter Tryz.func30,Tryz.ntmps30
   go_wp2_with fail
   go_loopw [1,5] (fun t i wr=>∃ j:Nat,j≤l.length∧i=.int .i64 (j:Int)∧t=.int .i64 (k+(j:Int))∧OwnT wr B (.slice (some ⟨g,0,none⟩) l.length c) (marksT k j ++ l.drop j)∧Wr (fun q=>(Value.slice (some ⟨g,0,none⟩) l.length c).ownBlock=some q) w wr) (fun _ i _=>l.length - (intOf i).toNat)
   case atStart=>exact ⟨0,by omega,rfl,by simp,ho,Wr.refl⟩
   case round =>
    clear ho hf hr h0
    obtain ⟨j,hj,rfl,rfl,ho,hw⟩:=hrel
    by_cases hlt:j<l.length
    · have hlen:(marksT k j ++ l.drop j).length=l.length:=by rw [List.length_append,marksT_len,List.length_drop];omega
      obtain ⟨m,hmm⟩:∃ m,m=k+(j:Int):=⟨_,rfl⟩
      have hm1:0≤m:=by omega
      have hm2:m≤200000000:=by omega
      rw [← hmm]
      have HM:=Lib.hid hmm
      clear hmm
      go_wp2_with fail
      refine (markText_any m hm1 (by omega) _).mono ?_
      rintro e w1 ⟨rfl,b1⟩
      have o1:=ho.below b1
      have w1r:=hw.trans (Wr.ofBelow b1)
      obtain ⟨-,-,hgw,cA,fA⟩:=OwnT.cellK o1 (k:=j) (by omega)
      have h2:=OwnT.put o1 (k:=j) (by omega) (mkT m.toNat)
      rw [HM.out,marksT_set hlt] at h2
      rw [← HM.out] at h2
      have H2:=Lib.hid h2
      clear ho h2 o1 b1 hlen
      go_wp2_with fail
      go_roundw
      case rel=>exact ⟨j+1,by omega,by go_num,by rw [HM.out];congr 1;omega,H2.out,w1r.setCell (p:=⟨g,j,none⟩) rfl _⟩
      case measure=>simp [intOf] <;> omega
    · have e:j=l.length:=by omega
      subst e
      rw [List.drop_length,List.append_nil] at ho
      go_wp2_with fail
      go_ret
      exact ⟨rfl,ho,hw⟩
 · have e:l=[]:=List.eq_nil_of_length_eq_zero (by omega)
   subst e
   go_enter Tryz.func30,Tryz.ntmps30
   go_wp2_with fail
   go_loopw [1,5] (fun t i wr=>i=.int .i64 ((0:Nat):Int)∧t=.int .i64 k∧wr=w) (fun _ _ _=>0)
   case atStart=>exact ⟨rfl,rfl,rfl⟩
   case round =>
    obtain ⟨rfl,rfl,rfl⟩:=hrel
    go_wp2_with fail
    go_ret
    exact ⟨by simp,ho,Wr.refl⟩
set_option maxHeartbeats 2000000 in
theorem heldTexts_any (a:Option Addr) (c n:Nat) (k:Int) (w:World) (hl:n≤1048580) (hk0:0≤k) (hk:k≤100000000) (hs:Strs w a (marksT k n)) :
 Calls Tryz.prog 31 #[.slice a n c,.int .i64 k] w fun e w'=>e=.returned (.int .i64 (k+(n:Int)))∧Below w.heap.size w w':=by
 go_enter Tryz.func31,Tryz.ntmps31
 go_wp2_with fail
 go_loopw [1,5] (fun t i wr=>∃ j:Nat,j≤n∧i=.int .i64 (j:Int)∧t=.int .i64 (k+(j:Int))∧Below w.heap.size w wr) (fun _ i _=>n - (intOf i).toNat)
 case atStart=>exact ⟨0,by omega,rfl,by simp,Below.refl _ _⟩
 case round =>
  obtain ⟨j,hj,rfl,rfl,hb⟩:=hrel
  have hz:=hb.size
  by_cases hlt:j<n
  · obtain ⟨b,off,rfl,hbw,m0⟩:=Strs.at (hs.below hb) (k:=j) (by rw [marksT_len];exact hlt)
    rw [marksT_nth _ _ _ hlt] at m0
    clear hs
    obtain ⟨m,hm⟩:∃ m,m=k+(j:Int):=⟨_,rfl⟩
    rw [← hm] at m0 ⊢
    have HM:=Lib.hid hm
    have hm1:0≤m:=by omega
    have hm2:m≤200000000:=by omega
    clear hm
    have hlt2:(j:Int)<(n:Int):=by omega
    go_upto_region 4 with fail
    have k0:=cell_regrown m0
    have i1:=legs_grown (w:=wr) (fun w=>markText_any m hm1 (by omega) w)
    refine wp_region_quiet_below (by kernel_rfl) (by kernel_rfl) ?_
    repeat (quiet_step (first|with_reducible exact i1 _ _))
    refine wpQuiet_nil ?_
    intro _ hw'
    obtain ⟨⟨dq,osq⟩,hw''⟩:=hw'
    have hgr:Below wr.heap.size wr (grow (redrawn wr dq) osq):=below_regrown wr dq osq
    subst hw''
    generalize grow (redrawn wr dq) osq=W2 at hgr ⊢
    clear k0 i1 m0
    go_wp2_with fail
    go_roundw
    case rel=>exact ⟨j+1,by omega,by go_num,by rw [HM.out];congr 1;omega,hb.trans (hgr.mono hz)⟩
    case measure=>simp [intOf] <;> omega
  · have e:j=n:=by omega
    subst e
    go_wp2_with fail
    go_ret
    exact ⟨rfl,hb⟩
end Go.Proofs.YthfoloefkfadlaaGreatDoor

namespace Go.Proofs.YthfoloefkfadlaaGreatDoor
open Go Go.RowKit Go.ChangeShapes Go.ChangeMaps

theorem open_texts {H:Type} {enc:TypeId × Value→H} {P:Program} {w:World} {base fuel:Nat} {spare:Nat→Bool} {held:Bool} {t e:TypeId} {cs:List Value} {x:DataW H × List MemPlace} (ht:P.underlying t=some (.slice e)) (he:P.underlying e=some .string) (hc:P.cellsOf e=1)
 (h:DataW.trod enc P w base spare held fuel t cs=some x):∃ (a:Option Addr) (c:Nat) (xs:List ByteArray),cs=[.slice a xs.length c]∧xs.length≤c∧c≤maxLen∧Strs w a xs∧∀ k,k<xs.length→(nth xs k).size≤maxLen:=by
 obtain ⟨a,c,xs,e1,h1,h2,h3⟩:=open_K (K:=strK) ht hc (by decide) (fun n cs x h=>by
  obtain ⟨s,h4,_⟩:=DataW.trod_string he h
  exact ⟨s,h4⟩) h
 refine ⟨a,c,xs,e1,h1,h2,h3,fun k hk=>?_⟩
 rcases open_strings ht he hc h with ⟨e2,_⟩|⟨a',len,cap,ss,e2,_,hl,_,hlen,_,hcell,hsz⟩
 · rw [e1] at e2
   simp only [List.cons.injEq,Value.slice.injEq,and_true] at e2
   omega
 · rw [e1] at e2
   simp only [List.cons.injEq,Value.slice.injEq,and_true] at e2
   obtain ⟨rfl,e3,rfl⟩:=e2
   obtain ⟨b,off,e,hb,hm⟩:=Strs.at h3 hk
   cases e
   have hks:k<ss.length:=by
    rw [hlen];split <;> omega
   have h5:=hcell k hks
   rw [Addr.add_lit,hm] at h5
   have e4:nth xs k=ss.getD k ByteArray.empty:=by
    injection h5 with h6
    injection h6
   rw [e4]
   refine hsz _ ?_
   rw [List.getD_eq_getElem?_getD,List.getElem?_eq_getElem hks]
   exact List.getElem_mem hks
end Go.Proofs.YthfoloefkfadlaaGreatDoor
