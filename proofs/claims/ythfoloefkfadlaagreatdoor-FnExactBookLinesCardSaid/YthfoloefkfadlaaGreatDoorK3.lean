/- Walks: the laws' helpers on legs and surveys: size, copy, equality, marks. Walks: the laws' marks on surveys, and that they are held. Walks: the laws' helpers on lists of deeds: size, copy, equality, marks, and that marks are held. Books in memory; walks of the laws' helpers on books: size, copy, equality, marks, and that marks are held. Books in memory, read; walks of the laws' copy, equality, marks on books. -/
import Derived.Test.YthfoloefkfadlaaGreatDoorK2
import Derived.Test.YthfoloefkfadlaaGreatDoorK1
set_option linter.unusedSimpArgs false
set_option linter.unusedVariables false
namespace Go.Proofs.YthfoloefkfadlaaGreatDoor
open Go Go.RowKit Go.Sort

def szL (n:Nat) (left:Int):Int:=if left - n<0 then -1 else left - n
theorem szLegS_any (a:Option Addr) (n c:Nat) (left:Int) (w:World) (hn:n≤9223372036854775807) (h0:0≤left) (h1:left≤1048576) :
 Calls Tryz.prog 103 #[.slice a n c,.int .i64 left] w fun e w'=>e=.returned (.int .i64 (szL n left))∧w=w':=by
 by_cases h:left - n<0
 · go_enter Tryz.func103,Tryz.ntmps103
   go_wp2
   go_ret
   exact ⟨by simp [szL,h],rfl⟩
 · go_enter Tryz.func103,Tryz.ntmps103
   go_wp2
   go_ret
   exact ⟨by simp only [szL];rw [if_neg (by omega)];rfl,rfl⟩
theorem szL_range (n:Nat) (left:Int) (h1:left≤1048576) : -1≤szL n left∧szL n left≤1048576:=by
 unfold szL;split <;> omega
theorem szL_le {n:Nat} {left:Int} (h:¬ szL n left<0):(n:Int)≤left∧szL n left=left - n:=by
 unfold szL at h ⊢
 split at h
 · omega
 · rename_i h';rw [if_neg h'];omega
theorem szSurvey_any (a:Option Addr) (n c:Nat) (st left:Int) (w:World) (hn:n≤9223372036854775807) (h0:0≤left) (h1:left≤1048576) :
 Calls Tryz.prog 54 #[.agg #[.int .i64 st,.slice a n c],.int .i64 left] w fun e w'=>e=.returned (.int .i64 (szL n left))∧Below w.heap.size w w':=by
 obtain ⟨hr1,hr2⟩:=szL_range n left h1
 by_cases hx:szL n left<0
 · go_enter Tryz.func54,Tryz.ntmps54
   go_wp2_with (go_at_call 103;refine (szLegS_any _ _ _ _ _ (by omega) (by omega) (by omega)).mono ?_;rintro e w' ⟨rfl,rfl⟩)
   go_ret
   refine ⟨?_,qBl⟩
   simp only [szL] at hx ⊢;split at hx <;> simp_all
 · go_enter Tryz.func54,Tryz.ntmps54
   go_wp2_with (go_at_call 103;refine (szLegS_any _ _ _ _ _ (by omega) (by omega) (by omega)).mono ?_;rintro e w' ⟨rfl,rfl⟩)
   go_ret
   exact ⟨rfl,qBl⟩
theorem toLeg_any (x1 x2 x3 x4 x5:Int) (w:World) :
 Calls Tryz.prog 148 #[.agg #[.int .i64 x1,.int .i64 x2,.int .i64 x3,.int .i64 x4,.int .i64 x5]] w fun e w'=>e=.returned (.agg #[.int .i64 x1,.int .i64 x2,.int .i64 x3,.int .i64 x4,.int .i64 x5])∧Below w.heap.size w w':=by
 go_enter Tryz.func148,Tryz.ntmps148
 go_wp2
 exact bodyPost_ret (v:=.agg #[.int .i64 x1,.int .i64 x2,.int .i64 x3,.int .i64 x4,.int .i64 x5]) (by simp [results,Tryz.results148,go_sem]) rfl ⟨rfl,qBl⟩
theorem mkLegs (n:Nat) (h:n≤2097152) (w:World):(Instr.makeSlice 23 (.int .i64 (n:Int)) (.int .i64 (n:Int))).run Tryz.prog w =
 .ok (.slice (some ⟨w.heap.size,0,none⟩) n n) (w.alloc (.cells (madeCells #[.int .i64 0,.int .i64 0,.int .i64 0,.int .i64 0,.int .i64 0] (n*5)) 75)):=by
 obtain ⟨i0,hi,hz0,hz1,hz2⟩:=info_parts infoLeg
 have h:=run_make (P:=Tryz.prog) w 23 75 i0 _ Tryz.underlying23 hi hz0 .i64 .i64 n n (by omega) (Int.le_refl _) (by rw [hz2];omega) (by omega)
 simpa [hz1,Value.cells] using h

theorem cell_some {α:Type} [Inhabited α] {K:Kind α} {T:TypeId} {w:World} {g cap:Nat} {F:Nat→Option α} (h:KRow K T w g cap F) {j:Nat} (hj:j<cap*K.sz):∃ u,w.cell? ⟨g,j,none⟩=some u:=Option.isSome_iff_exists.1 (h.has hj)

theorem toLegS_any (a:Option Addr) (c:Nat) (l:List Lg) (w:World) (hl:l.length≤1048576) (hs:Legs w a l) :
 Calls Tryz.prog 113 #[.slice a l.length c] w fun e w'=>e=.returned (.slice (some ⟨w.heap.size,0,none⟩) l.length l.length)∧OwnL w' w.heap.size (.slice (some ⟨w.heap.size,0,none⟩) l.length l.length) l∧Below w.heap.size w w':=by
 have hmk:=mkLegs l.length (by omega)
 go_enter Tryz.func113,Tryz.ntmps113
 go_wp2_with fail
 clear hmk
 go_loopw [4] (fun i wr=>∃ k:Nat,k≤l.length∧i=.int .i64 k∧KRow legK 75 wr w.heap.size l.length (fun j=>if j<k then some (nth l j) else none)∧Below w.heap.size w wr) (fun i _=>l.length - (intOf i).toNat)
 case atStart=>exact ⟨0,by omega,rfl,KRow.new w _ (by rw [size_madeCells];rfl) (fun k x hk hx=>by simp at hx),qBl⟩
 case round =>
  obtain ⟨k,hk,rfl,hr,hb⟩:=hrel
  have hz:=hb.size
  by_cases hlt:k<l.length
  · obtain ⟨b,off,rfl,hbw,m0,m1,m2,m3,m4⟩:=Legs.at (hs.below hb) hlt
    clear hs
    have hG:=hr.lt
    go_wp2_with fail
    refine (toLeg_any _ _ _ _ _ _).mono ?_
    rintro e w1 ⟨rfl,b1⟩
    have hr1:=hr.below b1
    obtain ⟨u0,t0⟩:=cell_some hr1 (j:=k*5) (by show _<l.length*5;omega)
    obtain ⟨u1,t1⟩:=cell_some hr1 (j:=k*5+1) (by show _<l.length*5;omega)
    obtain ⟨u2,t2⟩:=cell_some hr1 (j:=k*5+2) (by show _<l.length*5;omega)
    obtain ⟨u3,t3⟩:=cell_some hr1 (j:=k*5+3) (by show _<l.length*5;omega)
    obtain ⟨u4,t4⟩:=cell_some hr1 (j:=k*5+4) (by show _<l.length*5;omega)
    have hfz:=hr1.free
    have hput:=hr1.put k [nth l k]
    have hb2:=hb.trans (b1.mono hz)
    clear m0 m1 m2 m3 m4 hr b1
    go_wp2_with fail
    go_roundw
    case rel =>
     refine ⟨k+1,by omega,by go_num,?_,?_⟩
     · refine KRow.congr (show KRow legK 75 (w1.setCells w.heap.size (k*legK.sz) (legK.flat [nth l k])) w.heap.size l.length _ from hput) fun j hj x hx=>?_
       simp only [List.length_cons,List.length_nil]
       by_cases e:j=k
       · subst e;rw [if_pos (by omega)] at hx;rw [if_pos (by omega),← hx];simp [nth]
       · by_cases e2:j<k
         · rw [if_pos (by omega)] at hx;rw [if_neg (by omega),if_pos e2,← hx]
         · rw [if_neg (by omega)] at hx;cases hx
     · exact below_setCells w.heap.size (Nat.le_refl _) [_,_,_,_,_] (k*5) _ hb2
    case measure=>simp [intOf] <;> omega
  · go_wp2_with fail
    go_ret
    refine ⟨rfl,hr.own (Nat.le_refl _) l (Nat.le_refl _) (by unfold maxLen;omega) (fun j hj=>by rw [if_pos (by omega)]),hb⟩
theorem eqLeg_any (g:Lg) (w:World) :
 Calls Tryz.prog 155 #[g.val,g.val] w fun e w'=>e=.returned (.bool true)∧Below w.heap.size w w':=by
 obtain ⟨x1,x2,x3,x4,x5⟩:=g
 show Calls Tryz.prog 155 #[.agg #[.int .i64 x1,.int .i64 x2,.int .i64 x3,.int .i64 x4,.int .i64 x5],.agg #[.int .i64 x1,.int .i64 x2,.int .i64 x3,.int .i64 x4,.int .i64 x5]] w _
 have e1:(x1 != x1)=false:=by simp
 have e2:(x2 != x2)=false:=by simp
 have e3:(x3 != x3)=false:=by simp
 have e4:(x4 != x4)=false:=by simp
 have e5:(x5 != x5)=false:=by simp
 go_enter Tryz.func155,Tryz.ntmps155
 go_wp2
 go_ret
 exact ⟨rfl,qBl⟩
theorem eqLegS_any (a1 a2:Option Addr) (c1 c2:Nat) (l:List Lg) (w:World) (hl:l.length≤1048580) (h1:Legs w a1 l) (h2:Legs w a2 l) :
 Calls Tryz.prog 120 #[.slice a1 l.length c1,.slice a2 l.length c2] w fun e w'=>e=.returned (.bool true)∧Below w.heap.size w w':=by
 have hne:((l.length:Int) != (l.length:Int))=false:=by simp
 go_enter Tryz.func120,Tryz.ntmps120
 go_wp2_with fail
 go_loopw [5] (fun i wr=>∃ k:Nat,k≤l.length∧i=.int .i64 k∧Below w.heap.size w wr) (fun i _=>l.length - (intOf i).toNat)
 case atStart=>exact ⟨0,by omega,rfl,Below.refl _ _⟩
 case round =>
  obtain ⟨k,hk,rfl,hb⟩:=hrel
  have hz:=hb.size
  by_cases hlt:k<l.length
  · obtain ⟨b,off,rfl,hbw,m0,m1,m2,m3,m4⟩:=Legs.at (h1.below hb) hlt
    obtain ⟨b',off',rfl,hbw',n0,n1,n2,n3,n4⟩:=Legs.at (h2.below hb) hlt
    clear h1 h2
    go_wp2_with fail
    have k0:=cell_regrown m0
    have k1:=cell_regrown m1
    have k2:=cell_regrown m2
    have k3:=cell_regrown m3
    have k4:=cell_regrown m4
    have q0:=cell_regrown n0
    have q1:=cell_regrown n1
    have q2:=cell_regrown n2
    have q3:=cell_regrown n3
    have q4:=cell_regrown n4
    have i1:=legs_grown (w:=wr) (eqLeg_any (nth l k))
    simp only [Lg.val] at i1
    refine wp_region_quiet_below (by kernel_rfl) (by kernel_rfl) ?_
    repeat (quiet_step (first|with_reducible exact i1 _ _))
    refine wpQuiet_nil ?_
    intro _ hw'
    obtain ⟨⟨dq,osq⟩,hw''⟩:=hw'
    have hgr:Below wr.heap.size wr (grow (redrawn wr dq) osq):=below_regrown wr dq osq
    subst hw''
    generalize grow (redrawn wr dq) osq=W2 at hgr ⊢
    clear k0 k1 k2 k3 k4 q0 q1 q2 q3 q4 i1 m0 m1 m2 m3 m4 n0 n1 n2 n3 n4
    go_wp2_with fail
    go_roundw
    case rel=>exact ⟨k+1,by omega,by go_num,hb.trans (hgr.mono hz)⟩
    case measure=>simp [intOf] <;> omega
  · go_wp2_with fail
    go_ret
    exact ⟨rfl,hb⟩
theorem eqSurvey_any (a1 a2:Option Addr) (c1 c2:Nat) (st:Int) (l:List Lg) (w:World) (hl:l.length≤1048580) (h1:Legs w a1 l) (h2:Legs w a2 l) :
 Calls Tryz.prog 67 #[.agg #[.int .i64 st,.slice a1 l.length c1],.agg #[.int .i64 st,.slice a2 l.length c2]] w fun e w'=>e=.returned (.bool true)∧Below w.heap.size w w':=by
 have hne:(st != st)=false:=by simp
 go_enter Tryz.func67,Tryz.ntmps67
 go_wp2_with (go_at_call 120;refine (eqLegS_any _ _ _ _ l _ hl (h1.below qBl) (h2.below qBl)).mono ?_;rintro e w1 ⟨rfl,b1⟩)
 go_ret
 exact ⟨rfl,(by repeat (first|with_reducible assumption|with_reducible exact Below.refl _ _|refine Below.setCell ?_ qSo _|refine Below.alloc ?_ qSo _|with_reducible exact Below.trans (Below.refl _ _) b1|refine Below.trans ?_ (Below.mono b1 qSo)|refine below_drewN ?_ _|refine Below.drew ?_))⟩
theorem toSurvey_any (a:Option Addr) (c:Nat) (st:Int) (l:List Lg) (w:World) (hl:l.length≤1048576) (hs:Legs w a l) :
 Calls Tryz.prog 61 #[.agg #[.int .i64 st,.slice a l.length c]] w fun e w'=>∃ g,e=.returned (.agg #[.int .i64 st,.slice (some ⟨g,0,none⟩) l.length l.length])∧OwnL w' w.heap.size (.slice (some ⟨g,0,none⟩) l.length l.length) l∧Below w.heap.size w w':=by
 go_enter Tryz.func61,Tryz.ntmps61
 go_wp2_with (go_at_call 113;refine (toLegS_any _ _ l _ hl (hs.below qBl)).mono ?_;rintro e w1 ⟨rfl,o1,b1⟩;obtain ⟨hc,hf⟩:=bcell b1)
 refine bodyPost_ret (v:=.agg #[.int .i64 st,.slice (some ⟨w.heap.size+1+1+1,0,none⟩) l.length l.length]) (by simp [results,Tryz.results61,go_sem,hc]) rfl ⟨_,rfl,?_,(by repeat (first|with_reducible assumption|with_reducible exact Below.refl _ _|refine Below.setCell ?_ qSo _|refine Below.alloc ?_ qSo _|with_reducible exact Below.trans (Below.refl _ _) b1|refine Below.trans ?_ (Below.mono b1 qSo)|refine below_drewN ?_ _|refine Below.drew ?_))⟩
 have o2:OwnL w1 (w.heap.size+1+1+1) (.slice (some ⟨w.heap.size+1+1+1,0,none⟩) l.length l.length) l:=by simpa using o1
 refine KOwn.mono (B:=w.heap.size+1+1+1) ?_ (by omega)
 repeat (first|exact o2|refine KOwn.setCell ?_ qSo _)
set_option maxHeartbeats 1000000 in
theorem toBookDeed_any (d:Dd) (w:World) :
 Calls Tryz.prog 114 #[d.val] w fun e w'=>e=.returned d.val∧Below w.heap.size w w':=by
 obtain ⟨kd,ix,⟨x1,x2,x3,x4,x5⟩⟩:=d
 show Calls Tryz.prog 114 #[.agg #[.int .i64 kd,.int .i64 ix,.int .i64 x1,.int .i64 x2,.int .i64 x3,.int .i64 x4,.int .i64 x5]] w fun e w'=>e=.returned (.agg #[.int .i64 kd,.int .i64 ix,.int .i64 x1,.int .i64 x2,.int .i64 x3,.int .i64 x4,.int .i64 x5])∧Below w.heap.size w w'
 go_enter Tryz.func114,Tryz.ntmps114
 go_wp2_with (go_at_call 148;refine (toLeg_any _ _ _ _ _ _).mono ?_;rintro e w1 ⟨rfl,b1⟩;obtain ⟨hc,hf⟩:=bcell b1)
 exact bodyPost_ret (v:=.agg #[.int .i64 kd,.int .i64 ix,.int .i64 x1,.int .i64 x2,.int .i64 x3,.int .i64 x4,.int .i64 x5]) (by simp [results,Tryz.results114,go_sem,hc]) rfl ⟨rfl,(by repeat (first|with_reducible assumption|with_reducible exact Below.refl _ _|refine Below.setCell ?_ qSo _|refine Below.alloc ?_ qSo _|with_reducible exact Below.trans (Below.refl _ _) b1|refine Below.trans ?_ (Below.mono b1 qSo)|refine below_drewN ?_ _|refine Below.drew ?_))⟩
theorem eqBookDeed_any (d:Dd) (w:World) :
 Calls Tryz.prog 121 #[d.val,d.val] w fun e w'=>e=.returned (.bool true)∧Below w.heap.size w w':=by
 obtain ⟨kd,ix,⟨x1,x2,x3,x4,x5⟩⟩:=d
 show Calls Tryz.prog 121 #[.agg #[.int .i64 kd,.int .i64 ix,.int .i64 x1,.int .i64 x2,.int .i64 x3,.int .i64 x4,.int .i64 x5],.agg #[.int .i64 kd,.int .i64 ix,.int .i64 x1,.int .i64 x2,.int .i64 x3,.int .i64 x4,.int .i64 x5]] w _
 have e1:(kd != kd)=false:=by simp
 have e2:(ix != ix)=false:=by simp
 have i1:=eqLeg_any ⟨x1,x2,x3,x4,x5⟩
 simp only [Lg.val] at i1
 go_enter Tryz.func121,Tryz.ntmps121
 go_wp2_with (go_at_call 155;refine (i1 _).mono ?_;rintro e w1 ⟨rfl,b1⟩)
 go_ret
 exact ⟨rfl,(by repeat (first|with_reducible assumption|with_reducible exact Below.refl _ _|refine Below.setCell ?_ qSo _|refine Below.alloc ?_ qSo _|with_reducible exact Below.trans (Below.refl _ _) b1|refine Below.trans ?_ (Below.mono b1 qSo)|refine below_drewN ?_ _|refine Below.drew ?_))⟩
def mark1 (k:Int):Lg:=⟨k,k+1,k+1+1,k+1+1+1,k+1+1+1+1⟩
def marks (k:Int):Nat→List Lg
 | 0=>[]
 | n+1=>mark1 k :: marks (k+5) n
theorem marks_len:∀ (n:Nat) (k:Int),(marks k n).length=n
 | 0,_=>rfl
 | n+1,k=>by simp [marks,marks_len n]
theorem marks_nth:∀ (n:Nat) (k:Int) (j:Nat),j<n→nth (marks k n) j=mark1 (k+5*j)
 | 0,_,j,h=>by omega
 | n+1,k,0,_=>by simp [marks,nth]
 | n+1,k,j+1,h=>by
   show nth (marks (k+5) n) j=_
   rw [marks_nth n (k+5) j (by omega)]
   congr 1;omega

theorem markLegS_any (B:Nat) (a:Option Addr) (c:Nat) (l:List Lg) (k:Int) (w:World) (hl:l.length≤1048580) (hk0:0≤k) (hk:k≤100000000) (ho:OwnL w B (.slice a l.length c) l) :
 Calls Tryz.prog 122 #[.slice a l.length c,.int .i64 k] w fun e w'=>e=.returned (.int .i64 (k+5*(l.length:Int)))∧OwnL w' B (.slice a l.length c) (marks k l.length)∧w.grownBy w' (Value.slice a 0 0).ownBlock:=by
 by_cases h0:0<l.length
 · obtain ⟨g,cap,e,hBg,hn,hm,hr⟩:=ho.krow h0
   cases e
   clear ho
   go_enter Tryz.func122,Tryz.ntmps122
   go_wp2_with fail
   go_loopw [1,5] (fun t i wr=>∃ j:Nat,j≤l.length∧i=.int .i64 j∧t=.int .i64 (k+5*(j:Int))∧KRow legK 75 wr g c (fun q=>if q<j then some (mark1 (k+5*q)) else none)∧w.grownBy wr (some g)) (fun _ i _=>l.length - (intOf i).toNat)
   case atStart=>exact ⟨0,by omega,rfl,by simp,hr.congr (fun q _ x hx=>by simp at hx),World.grownBy.refl w _⟩
   case round =>
    obtain ⟨j,hj,rfl,rfl,hr,hg⟩:=hrel
    by_cases hlt:j<l.length
    · obtain ⟨u0,t0⟩:=cell_some hr (j:=j*5) (by show _<c*5;omega)
      obtain ⟨u1,t1⟩:=cell_some hr (j:=j*5+1) (by show _<c*5;omega)
      obtain ⟨u2,t2⟩:=cell_some hr (j:=j*5+2) (by show _<c*5;omega)
      obtain ⟨u3,t3⟩:=cell_some hr (j:=j*5+3) (by show _<c*5;omega)
      obtain ⟨u4,t4⟩:=cell_some hr (j:=j*5+4) (by show _<c*5;omega)
      have hfz:=hr.free
      obtain ⟨m,hm⟩:∃ m,m=k+5*(j:Int):=⟨_,rfl⟩
      rw [← hm]
      have HM:=Lib.hid hm
      have hm1:0≤m:=by omega
      have hm2:m≤200000000:=by omega
      have hput:=hr.put j [mark1 m]
      clear hm hr
      go_wp2_with fail
      go_roundw
      case rel =>
       refine ⟨j+1,by omega,by go_num,by rw [HM.out];congr 1;omega,?_,?_⟩
       · refine KRow.congr (show KRow legK 75 (wr.setCells g (j*legK.sz) (legK.flat [mark1 m])) g c _ from hput) fun q hq x hx=>?_
         simp only [List.length_cons,List.length_nil]
         by_cases e:q=j
         · subst e;rw [if_pos (by omega)] at hx;rw [if_pos (by omega),← hx,← HM.out];simp [nth]
         · by_cases e2:q<j
           · rw [if_pos (by omega)] at hx;rw [if_neg (by omega),if_pos e2,← hx]
           · rw [if_neg (by omega)] at hx;cases hx
       · exact grown_setCells hg (j*5) [_,_,_,_,_]
      case measure=>simp [intOf] <;> omega
    · have e:j=l.length:=by omega
      subst e
      go_wp2_with fail
      go_ret
      refine ⟨rfl,?_,hg⟩
      have:=hr.own hBg (marks k l.length) (by rw [marks_len];exact hn) hm (fun q hq=>by rw [marks_len] at hq;rw [if_pos hq,marks_nth _ _ _ hq])
      rw [marks_len] at this
      exact this
 · have e:l=[]:=List.eq_nil_of_length_eq_zero (by omega)
   subst e
   go_enter Tryz.func122,Tryz.ntmps122
   go_wp2_with fail
   go_loopw [1,5] (fun t i wr=>i=.int .i64 ((0:Nat):Int)∧t=.int .i64 k∧wr=w) (fun _ _ _=>0)
   case atStart=>exact ⟨rfl,rfl,rfl⟩
   case round =>
    obtain ⟨rfl,rfl,rfl⟩:=hrel
    go_wp2_with fail
    go_ret
    exact ⟨by simp,ho,World.grownBy.refl _ _⟩
end Go.Proofs.YthfoloefkfadlaaGreatDoor

namespace Go.Proofs.YthfoloefkfadlaaGreatDoor
open Go Go.RowKit Go.Sort

theorem grown_alloc_first {w w':World} {o:Obj} {row:Option Nat} (h:(w.alloc o).grownBy w' row):w.grownBy w' row :=
 (World.grownBy_alloc w o row).trans h

theorem markSurvey_any (B:Nat) (a:Option Addr) (c:Nat) (st:Int) (l:List Lg) (k:Int) (w:World) (hl:l.length≤1048580) (hk0:0≤k) (hk:k≤100000000) (ho:OwnL w B (.slice a l.length c) l) :
 Calls Tryz.prog 69 #[.agg #[.int .i64 st,.slice a l.length c],.int .i64 k] w fun e w'=>e=.returned (.int .i64 (k+5*(l.length:Int)))∧OwnL w' B (.slice a l.length c) (marks k l.length)∧w.grownBy w' (Value.slice a 0 0).ownBlock:=by
 go_enter Tryz.func69,Tryz.ntmps69
 go_wp2_with fail
 refine (markLegS_any B _ _ l k _ hl hk0 hk (ho.alloc _)).mono ?_
 rintro e w1 ⟨rfl,o1,g1⟩
 have g2:=grown_alloc_first g1
 clear g1
 go_wp2_with fail
 go_ret
 exact ⟨rfl,o1,g2⟩
theorem heldLegS_any (a:Option Addr) (c n:Nat) (k:Int) (w:World) (hl:n≤1048580) (hk0:0≤k) (hk:k≤100000000) (hs:Legs w a (marks k n)) :
 Calls Tryz.prog 123 #[.slice a n c,.int .i64 k] w fun e w'=>e=.returned (.int .i64 (k+5*(n:Int)))∧w=w':=by
 go_enter Tryz.func123,Tryz.ntmps123
 go_wp2_with fail
 go_loopw [1,5] (fun t i wr=>∃ j:Nat,j≤n∧i=.int .i64 j∧t=.int .i64 (k+5*(j:Int))∧w=wr) (fun _ i _=>n - (intOf i).toNat)
 case atStart=>exact ⟨0,by omega,rfl,by simp,rfl⟩
 case round =>
  obtain ⟨j,hj,rfl,rfl,rfl⟩:=hrel
  by_cases hlt:j<n
  · obtain ⟨b,off,rfl,hb,m0,m1,m2,m3,m4⟩:=Legs.at hs (k:=j) (by rw [marks_len];exact hlt)
    rw [marks_nth _ _ _ hlt] at m0 m1 m2 m3 m4
    simp only [mark1] at m0 m1 m2 m3 m4
    clear hs
    obtain ⟨m,hm⟩:∃ m,m=k+5*(j:Int):=⟨_,rfl⟩
    rw [← hm] at m0 m1 m2 m3 m4 ⊢
    have HM:=Lib.hid hm
    have hm1:0≤m:=by omega
    have hm2:m≤200000000:=by omega
    clear hm
    go_wp2_with fail
    go_roundw
    case rel=>exact ⟨j+1,by omega,by go_num,by rw [HM.out];congr 1;omega,by trivial⟩
    case measure=>simp [intOf] <;> omega
  · have e:j=n:=by omega
    subst e
    go_wp2_with fail
    go_ret
    exact ⟨rfl,rfl⟩
theorem heldSurvey_any (a:Option Addr) (c n:Nat) (st k:Int) (w:World) (hl:n≤1048580) (hk0:0≤k) (hk:k≤100000000) (hs:Legs w a (marks k n)) :
 Calls Tryz.prog 71 #[.agg #[.int .i64 st,.slice a n c],.int .i64 k] w fun e w'=>e=.returned (.int .i64 (k+5*(n:Int)))∧Below w.heap.size w w':=by
 have hpos:0≤k+5*(n:Int):=by omega
 go_enter Tryz.func71,Tryz.ntmps71
 go_wp2_with fail
 refine (heldLegS_any _ _ n k _ hl hk0 hk (hs.alloc _)).mono ?_
 rintro e w1 ⟨rfl,rfl⟩
 go_wp2_with fail
 go_ret
 exact ⟨rfl,qBl⟩
end Go.Proofs.YthfoloefkfadlaaGreatDoor

namespace Go.Proofs.YthfoloefkfadlaaGreatDoor
open Go Go.RowKit Go.Sort

abbrev OwnD (w:World) (B:Nat) (v:Value) (l:List Dd):Prop:=KOwn ddK 82 w B v l
theorem infoDd:(Tryz.prog.info? 82).map (fun i=>(i.zero,i.size,i.bytes))=some (some (.agg #[.int .i64 0,.int .i64 0,.int .i64 0,.int .i64 0,.int .i64 0,.int .i64 0,.int .i64 0]),7,56):=by kernel_rfl
theorem ddI:KInfo Tryz.prog ddK 82 26:=by
 obtain ⟨i0,hi,hz0,hz1,hz2⟩:=info_parts infoDd
 exact ⟨Tryz.underlying26,⟨i0,_,56,hi,hz0,hz1,hz2,rfl,by omega⟩,by decide⟩

theorem szDds_any (a:Option Addr) (n c:Nat) (left:Int) (w:World) (hn:n≤9223372036854775807) (h0:0≤left) (h1:left≤1048576) :
 Calls Tryz.prog 55 #[.slice a n c,.int .i64 left] w fun e w'=>e=.returned (.int .i64 (szL n left))∧w=w':=by
 by_cases h:left - n<0
 · go_enter Tryz.func55,Tryz.ntmps55
   go_wp2
   go_ret
   exact ⟨by simp [szL,h],rfl⟩
 · go_enter Tryz.func55,Tryz.ntmps55
   go_wp2
   go_ret
   exact ⟨by simp only [szL];rw [if_neg (by omega)];rfl,rfl⟩
theorem mkDds (n:Nat) (h:n≤2097152) (w:World):(Instr.makeSlice 26 (.int .i64 (n:Int)) (.int .i64 (n:Int))).run Tryz.prog w =
 .ok (.slice (some ⟨w.heap.size,0,none⟩) n n) (w.alloc (.cells (madeCells #[.int .i64 0,.int .i64 0,.int .i64 0,.int .i64 0,.int .i64 0,.int .i64 0,.int .i64 0] (n*7)) 82)):=by
 obtain ⟨i0,hi,hz0,hz1,hz2⟩:=info_parts infoDd
 have h:=run_make (P:=Tryz.prog) w 26 82 i0 _ Tryz.underlying26 hi hz0 .i64 .i64 n n (by omega) (Int.le_refl _) (by rw [hz2];omega) (by omega)
 simpa [hz1,Value.cells] using h

set_option maxHeartbeats 1000000 in
theorem toDds_any (a:Option Addr) (c:Nat) (l:List Dd) (w:World) (hl:l.length≤1048576) (hs:Dds w a l) :
 Calls Tryz.prog 62 #[.slice a l.length c] w fun e w'=>e=.returned (.slice (some ⟨w.heap.size,0,none⟩) l.length l.length)∧OwnD w' w.heap.size (.slice (some ⟨w.heap.size,0,none⟩) l.length l.length) l∧Below w.heap.size w w':=by
 have hmk:=mkDds l.length (by omega)
 go_enter Tryz.func62,Tryz.ntmps62
 go_wp2_with fail
 clear hmk
 go_loopw [4] (fun i wr=>∃ k:Nat,k≤l.length∧i=.int .i64 k∧KRow ddK 82 wr w.heap.size l.length (fun j=>if j<k then some (nth l j) else none)∧Below w.heap.size w wr) (fun i _=>l.length - (intOf i).toNat)
 case atStart=>exact ⟨0,by omega,rfl,KRow.new w _ (by rw [size_madeCells];rfl) (fun k x hk hx=>by simp at hx),qBl⟩
 case round =>
  obtain ⟨k,hk,rfl,hr,hb⟩:=hrel
  have hz:=hb.size
  by_cases hlt:k<l.length
  · obtain ⟨b,off,rfl,hbw,m0,m1,m2,m3,m4,m5,m6⟩:=Dds.at (hs.below hb) hlt
    clear hs
    have hG:=hr.lt
    go_wp2_with fail
    refine (toBookDeed_any (nth l k) _).mono ?_
    rintro e w1 ⟨rfl,b1⟩
    have hr1:=hr.below b1
    obtain ⟨u0,t0⟩:=cell_some hr1 (j:=k*7) (by show _<l.length*7;omega)
    obtain ⟨u1,t1⟩:=cell_some hr1 (j:=k*7+1) (by show _<l.length*7;omega)
    obtain ⟨u2,t2⟩:=cell_some hr1 (j:=k*7+2) (by show _<l.length*7;omega)
    obtain ⟨u3,t3⟩:=cell_some hr1 (j:=k*7+3) (by show _<l.length*7;omega)
    obtain ⟨u4,t4⟩:=cell_some hr1 (j:=k*7+4) (by show _<l.length*7;omega)
    obtain ⟨u5,t5⟩:=cell_some hr1 (j:=k*7+5) (by show _<l.length*7;omega)
    obtain ⟨u6,t6⟩:=cell_some hr1 (j:=k*7+6) (by show _<l.length*7;omega)
    have hfz:=hr1.free
    have hput:=hr1.put k [nth l k]
    have hb2:=hb.trans (b1.mono hz)
    clear m0 m1 m2 m3 m4 m5 m6 hr b1
    simp only [Dd.val]
    go_wp2_with fail
    go_roundw
    case rel =>
     refine ⟨k+1,by omega,by go_num,?_,?_⟩
     · refine KRow.congr (show KRow ddK 82 (w1.setCells w.heap.size (k*ddK.sz) (ddK.flat [nth l k])) w.heap.size l.length _ from hput) fun j hj x hx=>?_
       simp only [List.length_cons,List.length_nil]
       by_cases e:j=k
       · subst e;rw [if_pos (by omega)] at hx;rw [if_pos (by omega),← hx];simp [nth]
       · by_cases e2:j<k
         · rw [if_pos (by omega)] at hx;rw [if_neg (by omega),if_pos e2,← hx]
         · rw [if_neg (by omega)] at hx;cases hx
     · exact below_setCells w.heap.size (Nat.le_refl _) [_,_,_,_,_,_,_] (k*7) _ hb2
    case measure=>simp [intOf] <;> omega
  · go_wp2_with fail
    go_ret
    refine ⟨rfl,hr.own (Nat.le_refl _) l (Nat.le_refl _) (by unfold maxLen;omega) (fun j hj=>by rw [if_pos (by omega)]),hb⟩
set_option maxHeartbeats 1000000 in
theorem eqDds_any (a1 a2:Option Addr) (c1 c2:Nat) (l:List Dd) (w:World) (hl:l.length≤1048580) (h1:Dds w a1 l) (h2:Dds w a2 l) :
 Calls Tryz.prog 68 #[.slice a1 l.length c1,.slice a2 l.length c2] w fun e w'=>e=.returned (.bool true)∧Below w.heap.size w w':=by
 have hne:((l.length:Int) != (l.length:Int))=false:=by simp
 go_enter Tryz.func68,Tryz.ntmps68
 go_wp2_with fail
 go_loopw [5] (fun i wr=>∃ k:Nat,k≤l.length∧i=.int .i64 k∧Below w.heap.size w wr) (fun i _=>l.length - (intOf i).toNat)
 case atStart=>exact ⟨0,by omega,rfl,Below.refl _ _⟩
 case round =>
  obtain ⟨k,hk,rfl,hb⟩:=hrel
  have hz:=hb.size
  by_cases hlt:k<l.length
  · obtain ⟨b,off,rfl,hbw,m0,m1,m2,m3,m4,m5,m6⟩:=Dds.at (h1.below hb) hlt
    obtain ⟨b',off',rfl,hbw',n0,n1,n2,n3,n4,n5,n6⟩:=Dds.at (h2.below hb) hlt
    clear h1 h2
    go_wp2_with fail
    have k0:=cell_regrown m0
    have q0:=cell_regrown n0
    have k1:=cell_regrown m1
    have q1:=cell_regrown n1
    have k2:=cell_regrown m2
    have q2:=cell_regrown n2
    have k3:=cell_regrown m3
    have q3:=cell_regrown n3
    have k4:=cell_regrown m4
    have q4:=cell_regrown n4
    have k5:=cell_regrown m5
    have q5:=cell_regrown n5
    have k6:=cell_regrown m6
    have q6:=cell_regrown n6
    have i1:=legs_grown (w:=wr) (eqBookDeed_any (nth l k))
    simp only [Dd.val] at i1
    refine wp_region_quiet_below (by kernel_rfl) (by kernel_rfl) ?_
    repeat (quiet_step (first|with_reducible exact i1 _ _))
    refine wpQuiet_nil ?_
    intro _ hw'
    obtain ⟨⟨dq,osq⟩,hw''⟩:=hw'
    have hgr:Below wr.heap.size wr (grow (redrawn wr dq) osq):=below_regrown wr dq osq
    subst hw''
    generalize grow (redrawn wr dq) osq=W2 at hgr ⊢
    clear k0 q0 k1 q1 k2 q2 k3 q3 k4 q4 k5 q5 k6 q6 i1 m0 m1 m2 m3 m4 m5 m6 n0 n1 n2 n3 n4 n5 n6
    go_wp2_with fail
    go_roundw
    case rel=>exact ⟨k+1,by omega,by go_num,hb.trans (hgr.mono hz)⟩
    case measure=>simp [intOf] <;> omega
  · go_wp2_with fail
    go_ret
    exact ⟨rfl,hb⟩
def markD1 (k:Int):Dd:=⟨k,k+1,⟨k+1+1,k+1+1+1,k+1+1+1+1,k+1+1+1+1+1,k+1+1+1+1+1+1⟩⟩
def marksD (k:Int):Nat→List Dd
 | 0=>[]
 | n+1=>markD1 k :: marksD (k+7) n
theorem marksD_len:∀ (n:Nat) (k:Int),(marksD k n).length=n
 | 0,_=>rfl
 | n+1,k=>by simp [marksD,marksD_len n]
theorem marksD_nth:∀ (n:Nat) (k:Int) (j:Nat),j<n→nth (marksD k n) j=markD1 (k+7*j)
 | 0,_,j,h=>by omega
 | n+1,k,0,_=>by simp [marksD,nth]
 | n+1,k,j+1,h=>by
   show nth (marksD (k+7) n) j=_
   rw [marksD_nth n (k+7) j (by omega)]
   congr 1;omega

set_option maxHeartbeats 2000000 in
theorem markDds_any (B:Nat) (a:Option Addr) (c:Nat) (l:List Dd) (k:Int) (w:World) (hl:l.length≤1048580) (hk0:0≤k) (hk:k≤100000000) (ho:OwnD w B (.slice a l.length c) l) :
 Calls Tryz.prog 70 #[.slice a l.length c,.int .i64 k] w fun e w'=>e=.returned (.int .i64 (k+7*(l.length:Int)))∧OwnD w' B (.slice a l.length c) (marksD k l.length)∧w.grownBy w' (Value.slice a 0 0).ownBlock:=by
 by_cases h0:0<l.length
 · obtain ⟨g,cap,e,hBg,hn,hm,hr⟩:=ho.krow h0
   cases e
   clear ho
   go_enter Tryz.func70,Tryz.ntmps70
   go_wp2_with fail
   go_loopw [1,5] (fun t i wr=>∃ j:Nat,j≤l.length∧i=.int .i64 j∧t=.int .i64 (k+7*(j:Int))∧KRow ddK 82 wr g c (fun q=>if q<j then some (markD1 (k+7*q)) else none)∧w.grownBy wr (some g)) (fun _ i _=>l.length - (intOf i).toNat)
   case atStart=>exact ⟨0,by omega,rfl,by simp,hr.congr (fun q _ x hx=>by simp at hx),World.grownBy.refl w _⟩
   case round =>
    obtain ⟨j,hj,rfl,rfl,hr,hg⟩:=hrel
    by_cases hlt:j<l.length
    · skip
      obtain ⟨u0,t0⟩:=cell_some hr (j:=j*7) (by show _<c*7;omega)
      obtain ⟨u1,t1⟩:=cell_some hr (j:=j*7+1) (by show _<c*7;omega)
      obtain ⟨u2,t2⟩:=cell_some hr (j:=j*7+2) (by show _<c*7;omega)
      obtain ⟨u3,t3⟩:=cell_some hr (j:=j*7+3) (by show _<c*7;omega)
      obtain ⟨u4,t4⟩:=cell_some hr (j:=j*7+4) (by show _<c*7;omega)
      obtain ⟨u5,t5⟩:=cell_some hr (j:=j*7+5) (by show _<c*7;omega)
      obtain ⟨u6,t6⟩:=cell_some hr (j:=j*7+6) (by show _<c*7;omega)
      have hfz:=hr.free
      obtain ⟨m,hm⟩:∃ m,m=k+7*(j:Int):=⟨_,rfl⟩
      rw [← hm]
      have HM:=Lib.hid hm
      have hm1:0≤m:=by omega
      have hm2:m≤200000000:=by omega
      have hput:=hr.put j [markD1 m]
      clear hm hr
      go_wp2_with fail
      go_roundw
      case rel =>
       refine ⟨j+1,by omega,by go_num,by rw [HM.out];congr 1;omega,?_,?_⟩
       · refine KRow.congr (show KRow ddK 82 (wr.setCells g (j*ddK.sz) (ddK.flat [markD1 m])) g c _ from hput) fun q hq x hx=>?_
         simp only [List.length_cons,List.length_nil]
         by_cases e:q=j
         · subst e;rw [if_pos (by omega)] at hx;rw [if_pos (by omega),← hx,← HM.out];simp [nth]
         · by_cases e2:q<j
           · rw [if_pos (by omega)] at hx;rw [if_neg (by omega),if_pos e2,← hx]
           · rw [if_neg (by omega)] at hx;cases hx
       · exact grown_setCells hg (j*7) [_,_,_,_,_,_,_]
      case measure=>simp [intOf] <;> omega
    · have e:j=l.length:=by omega
      subst e
      go_wp2_with fail
      go_ret
      refine ⟨rfl,?_,hg⟩
      have:=hr.own hBg (marksD k l.length) (by rw [marksD_len];exact hn) hm (fun q hq=>by rw [marksD_len] at hq;rw [if_pos hq,marksD_nth _ _ _ hq])
      rw [marksD_len] at this
      exact this
 · have e:l=[]:=List.eq_nil_of_length_eq_zero (by omega)
   subst e
   go_enter Tryz.func70,Tryz.ntmps70
   go_wp2_with fail
   go_loopw [1,5] (fun t i wr=>i=.int .i64 ((0:Nat):Int)∧t=.int .i64 k∧wr=w) (fun _ _ _=>0)
   case atStart=>exact ⟨rfl,rfl,rfl⟩
   case round =>
    obtain ⟨rfl,rfl,rfl⟩:=hrel
    go_wp2_with fail
    go_ret
    exact ⟨by simp,ho,World.grownBy.refl _ _⟩

set_option maxHeartbeats 2000000 in
theorem heldDds_any (a:Option Addr) (c n:Nat) (k:Int) (w:World) (hl:n≤1048580) (hk0:0≤k) (hk:k≤100000000) (hs:Dds w a (marksD k n)) :
 Calls Tryz.prog 72 #[.slice a n c,.int .i64 k] w fun e w'=>e=.returned (.int .i64 (k+7*(n:Int)))∧w=w':=by
 go_enter Tryz.func72,Tryz.ntmps72
 go_wp2_with fail
 go_loopw [1,5] (fun t i wr=>∃ j:Nat,j≤n∧i=.int .i64 j∧t=.int .i64 (k+7*(j:Int))∧w=wr) (fun _ i _=>n - (intOf i).toNat)
 case atStart=>exact ⟨0,by omega,rfl,by simp,rfl⟩
 case round =>
  obtain ⟨j,hj,rfl,rfl,rfl⟩:=hrel
  by_cases hlt:j<n
  · obtain ⟨b,off,rfl,hb,m0,m1,m2,m3,m4,m5,m6⟩:=Dds.at hs (k:=j) (by rw [marksD_len];exact hlt)
    rw [marksD_nth _ _ _ hlt] at m0 m1 m2 m3 m4 m5 m6
    simp only [markD1] at m0 m1 m2 m3 m4 m5 m6
    clear hs
    obtain ⟨m,hm⟩:∃ m,m=k+7*(j:Int):=⟨_,rfl⟩
    rw [← hm] at m0 m1 m2 m3 m4 m5 m6 ⊢
    have HM:=Lib.hid hm
    have hm1:0≤m:=by omega
    have hm2:m≤200000000:=by omega
    clear hm
    go_wp2_with fail
    go_roundw
    case rel=>exact ⟨j+1,by omega,by go_num,by rw [HM.out];congr 1;omega,by trivial⟩
    case measure=>simp [intOf] <;> omega
  · have e:j=n:=by omega
    subst e
    go_wp2_with fail
    go_ret
    exact ⟨rfl,rfl⟩
end Go.Proofs.YthfoloefkfadlaaGreatDoor

namespace Go.Proofs.YthfoloefkfadlaaGreatDoor
open Go Go.RowKit Go.Sort

structure At (w:World) (X:Nat) (vs:List Value):Prop where
 lt:X<w.heap.size
 c:∀ j v,vs[j]?=some v→w.cell? ⟨X,j,none⟩=some v
 f:∀ j,w.frozen? ⟨X,j,none⟩=false
section
variable {w w':World} {X:Nat} {vs:List Value}
theorem At.belowB {B:Nat} (h:At w X vs) (hb:Below B w w') (hX:X<B):At w' X vs :=
 ⟨Nat.lt_of_lt_of_le h.lt hb.size,fun j v hv=>(hb.cell (p:=⟨X,j,none⟩) hX).trans (h.c j v hv),fun j=>(hb.frozen (p:=⟨X,j,none⟩) hX).trans (h.f j)⟩
theorem At.below (h:At w X vs) (hb:Below w.heap.size w w'):At w' X vs:=h.belowB hb h.lt
theorem At.alloc (h:At w X vs) (o:Obj):At (w.alloc o) X vs:=h.below ((Below.refl _ _).alloc (Nat.le_refl _) o)
theorem At.drew (h:At w X vs):At w.drew X vs:=h.below ((Below.refl _ _).drew)
theorem At.new (w:World) (cs:Array Value) (T:TypeId) (hX:X=w.heap.size) (hv:cs.toList=vs):At (w.alloc (.cells cs T)) X vs:=by
 subst hX hv
 have e:(w.alloc (.cells cs T)).heap[w.heap.size]?=some (.cells cs T (0,0)):=Deep.blk_alloc_new _ _
 refine ⟨by simp,fun j v hj=>?_,fun j=>World.frozen?_alloc_new _ _ _ _⟩
 unfold World.cell?
 simp only [e]
 simpa using hj
theorem At.set (h:At w X vs) (j:Nat) (v:Value):At (w.setCell ⟨X,j,none⟩ v) X (vs.set j v):=by
 refine ⟨by simpa [World.setCell] using h.lt,fun i u hu=>?_,fun i=>by rw [World.frozen?_setCell];exact h.f i⟩
 rw [List.getElem?_set] at hu
 split at hu
 · rename_i e;subst e
   split at hu
   · rename_i hl;cases hu
     exact World.cell?_setCell_same _ _ _ (h.c _ _ (List.getElem?_eq_getElem hl))
   · cases hu
 · rename_i e
   rw [World.cell?_setCell_other _ _ _ _ (by intro e';injection e' with _ e2;exact e e2)]
   exact h.c i u hu
theorem At.setOther (h:At w X vs) {p:Addr} (hp:X≠p.block) (v:Value):At (w.setCell p v) X vs :=
 ⟨by simpa [World.setCell] using h.lt,fun i u hu=>by rw [World.cell?_setCell_other _ _ _ _ (by intro e;exact hp (by rw [e]))];exact h.c i u hu,fun i=>by rw [World.frozen?_setCell];exact h.f i⟩
theorem At.block (h:At w X vs) (hb:w'.heap[X]?=w.heap[X]?):At w' X vs:=by
 have hl:X<w'.heap.size:=by
  have h1:(w.heap[X]?).isSome=true:=by rw [Array.getElem?_eq_getElem h.lt];rfl
  rw [← hb] at h1
  apply Nat.lt_of_not_le
  intro hle
  rw [Array.getElem?_eq_none hle] at h1
  cases h1
 exact ⟨hl,fun j v hv=>(World.cell?_of_block (w:=w) (a:=⟨X,j,none⟩) hb).trans (h.c j v hv),fun j=>(World.frozen?_of_block (w:=w) (a:=⟨X,j,none⟩) hb).trans (h.f j)⟩
theorem At.sets2 {u0 u1:Value} (h:At w X [u0,u1]) (a b:Value):At ((w.setCell ⟨X,0,none⟩ a).setCell ⟨X,1,none⟩ b) X [a,b]:=(h.set 0 a).set 1 b
theorem At.sets4 {u0 u1 u2 u3:Value} (h:At w X [u0,u1,u2,u3]) (a b c d:Value):At ((((w.setCell ⟨X,0,none⟩ a).setCell ⟨X,1,none⟩ b).setCell ⟨X,2,none⟩ c).setCell ⟨X,3,none⟩ d) X [a,b,c,d]:=(((h.set 0 a).set 1 b).set 2 c).set 3 d
theorem At.born {W:World} {cs:Array Value} {T:TypeId} (c:Below (W.alloc (.cells cs T)).heap.size (W.alloc (.cells cs T)) w'):At w' W.heap.size cs.toList:=(At.new W cs T rfl rfl).below c
theorem At.bornD {W:World} {cs:Array Value} {T:TypeId} (c:Below (W.alloc (.cells cs T)).drew.heap.size (W.alloc (.cells cs T)).drew w'):At w' W.heap.size cs.toList:=(At.new W cs T rfl rfl).drew.below c
theorem At.facts2 {a b:Value} (h:At w X [a,b]):X<w.heap.size∧w.cell? ⟨X,0,none⟩=some a∧w.cell? ⟨X,1,none⟩=some b∧∀ j,w.frozen? ⟨X,j,none⟩=false:=⟨h.lt,h.c 0 _ rfl,h.c 1 _ rfl,h.f⟩
theorem At.facts4 {a b c d:Value} (h:At w X [a,b,c,d]):X<w.heap.size∧w.cell? ⟨X,0,none⟩=some a∧w.cell? ⟨X,1,none⟩=some b∧w.cell? ⟨X,2,none⟩=some c∧w.cell? ⟨X,3,none⟩=some d∧∀ j,w.frozen? ⟨X,j,none⟩=false :=
 ⟨h.lt,h.c 0 _ rfl,h.c 1 _ rfl,h.c 2 _ rfl,h.c 3 _ rfl,h.f⟩
theorem At.facts7 {a b c d e f g:Value} (h:At w X [a,b,c,d,e,f,g]):X<w.heap.size∧w.cell? ⟨X,0,none⟩=some a∧w.cell? ⟨X,1,none⟩=some b∧w.cell? ⟨X,2,none⟩=some c∧w.cell? ⟨X,3,none⟩=some d∧w.cell? ⟨X,4,none⟩=some e∧w.cell? ⟨X,5,none⟩=some f∧w.cell? ⟨X,6,none⟩=some g∧∀ j,w.frozen? ⟨X,j,none⟩=false :=
 ⟨h.lt,h.c 0 _ rfl,h.c 1 _ rfl,h.c 2 _ rfl,h.c 3 _ rfl,h.c 4 _ rfl,h.c 5 _ rfl,h.c 6 _ rfl,h.f⟩
theorem At.four {a b c d:Value} (h:At w X [a,b,c,d]):X<w.heap.size∧w.cell? ⟨X,0,none⟩=some a∧w.cell? ⟨X,1,none⟩=some b∧w.cell? ⟨X,2,none⟩=some c∧w.cell? ⟨X,3,none⟩=some d ∧
 w.frozen? ⟨X,0,none⟩=false∧w.frozen? ⟨X,1,none⟩=false∧w.frozen? ⟨X,2,none⟩=false∧w.frozen? ⟨X,3,none⟩=false :=
 ⟨h.lt,h.c 0 _ rfl,h.c 1 _ rfl,h.c 2 _ rfl,h.c 3 _ rfl,h.f 0,h.f 1,h.f 2,h.f 3⟩
def Boxed (V:World) (vs:List Value) (p:Value) (w:World):Prop:=∃ g,p=.pointer (some ⟨g,0,none⟩)∧V.heap.size≤g∧At w g vs∧Below V.heap.size V w
end

structure Wr (R:Nat→Prop) (w w':World):Prop where
 os:w'.os=w.os
 tape:w'.tape=w.tape
 output:w'.output=w.output
 size:w.heap.size≤w'.heap.size
 block:∀ k,k<w.heap.size→¬ R k→w'.heap[k]?=w.heap[k]?
section
variable {R:Nat→Prop} {w w' w'':World}
theorem Wr.refl:Wr R w w:=⟨rfl,rfl,rfl,Nat.le_refl _,fun _ _ _=>rfl⟩
theorem Wr.trans (h:Wr R w w') (k:Wr R w' w''):Wr R w w'' :=
 ⟨k.os.trans h.os,k.tape.trans h.tape,k.output.trans h.output,Nat.le_trans h.size k.size,fun i hi hr=>(k.block i (Nat.lt_of_lt_of_le hi h.size) hr).trans (h.block i hi hr)⟩
theorem Wr.ofBelow (h:Below w.heap.size w w'):Wr R w w':=⟨h.os,h.tape,h.output,h.size,fun k hk _=>h.block k hk⟩
theorem Wr.ofGrown {row:Option Nat} (h:w.grownBy w' row) (hr:∀ k,row=some k→R k):Wr R w w':=⟨h.os,h.tape,h.output,h.size,fun k hk hn=>h.block k hk fun e=>hn (hr k e.symm)⟩
theorem Wr.below {B:Nat} (h:Wr R w w') (hB:B≤w.heap.size) (hr:∀ k,R k→B≤k):Below B w w':=⟨h.os,h.tape,h.output,h.size,fun k hk=>h.block k (by omega) fun e=>by have:=hr k e;omega⟩
theorem KOwn.wr {α:Type} {K:Kind α} [Inhabited α] {T:TypeId} {B:Nat} {v:Value} {xs:List α} (h:KOwn K T w B v xs) (hw:Wr R w w') (hr:∀ k,v.ownBlock=some k→¬ R k):KOwn K T w' B v xs:=by
 refine ⟨h.1,?_⟩
 rcases h.2 with hn|⟨g,cap,cur,e,hB,hg,r⟩
 · exact .inl hn
 · exact .inr ⟨g,cap,cur,e,hB,(hw.block g (Array.getElem?_eq_some_iff.1 hg).1 (hr g (by rw [e];rfl))).trans hg,r⟩
end

structure BkOwn (w:World) (B:Nat) (v1 v2 v3:Value) (b:Bk):Prop where
 l:OwnL w B v1 b.first.legs
 d:OwnD w B v2 b.done
 u:OwnD w B v3 b.undone
 ne12:∀ k,v1.ownBlock=some k→v2.ownBlock≠some k
 ne13:∀ k,v1.ownBlock=some k→v3.ownBlock≠some k
 ne23:∀ k,v2.ownBlock=some k→v3.ownBlock≠some k
def bkBlk (v1 v2 v3:Value) (k:Nat):Prop:=v1.ownBlock=some k∨v2.ownBlock=some k∨v3.ownBlock=some k
section
variable {w w':World} {B:Nat} {v1 v2 v3:Value} {b:Bk}
theorem BkOwn.below (h:BkOwn w B v1 v2 v3 b) (hb:Below w.heap.size w w'):BkOwn w' B v1 v2 v3 b:=⟨h.l.below hb,h.d.below hb,h.u.below hb,h.ne12,h.ne13,h.ne23⟩
theorem BkOwn.mono (h:BkOwn w B v1 v2 v3 b) {B':Nat} (hB:B'≤B):BkOwn w B' v1 v2 v3 b:=⟨h.l.mono hB,h.d.mono hB,h.u.mono hB,h.ne12,h.ne13,h.ne23⟩
theorem BkOwn.blk (h:BkOwn w B v1 v2 v3 b) {k:Nat} (hk:bkBlk v1 v2 v3 k):B≤k∧k<w.heap.size:=by
 rcases hk with e|e|e
 · exact h.l.lt e
 · exact h.d.lt e
 · exact h.u.lt e
theorem BkOwn.setCell (h:BkOwn w B v1 v2 v3 b) {p:Addr} (hp:p.block<B) (u:Value):BkOwn (w.setCell p u) B v1 v2 v3 b:=⟨h.l.setCell hp u,h.d.setCell hp u,h.u.setCell hp u,h.ne12,h.ne13,h.ne23⟩
theorem BkOwn.wr {R:Nat→Prop} (h:BkOwn w B v1 v2 v3 b) (hw:Wr R w w') (hr:∀ k,bkBlk v1 v2 v3 k→¬ R k):BkOwn w' B v1 v2 v3 b :=
 ⟨h.l.wr hw fun k e=>hr k (.inl e),h.d.wr hw fun k e=>hr k (.inr (.inl e)),h.u.wr hw fun k e=>hr k (.inr (.inr e)),h.ne12,h.ne13,h.ne23⟩
theorem BkOwn.forms (h:BkOwn w B v1 v2 v3 b):∃ a1 c1 a2 c2 a3 c3,v1=.slice a1 b.first.legs.length c1∧v2=.slice a2 b.done.length c2∧v3=.slice a3 b.undone.length c3:=by
 obtain ⟨a1,c1,e1⟩:=h.l.sl
 obtain ⟨a2,c2,e2⟩:=h.d.sl
 obtain ⟨a3,c3,e3⟩:=h.u.sl
 exact ⟨a1,c1,a2,c2,a3,c3,e1,e2,e3⟩
end
def BkRet (b:Bk) (w:World) (e:Ending) (w':World):Prop:=∃ v1 v2 v3,e=.returned (.agg #[.int .i64 b.first.st,v1,v2,v3])∧BkOwn w' w.heap.size v1 v2 v3 b∧Below w.heap.size w w'
def BkOut (p:Bk × Bool) (w:World) (e:Ending) (w':World):Prop:=∃ v1 v2 v3,e=.returned (.tuple #[.agg #[.int .i64 p.1.first.st,v1,v2,v3],.bool p.2])∧BkOwn w' w.heap.size v1 v2 v3 p.1∧Below w.heap.size w w'

def szB (n1 n2 n3:Nat) (left:Int):Int:=if szL n1 left<0 then -1 else if szL n2 (szL n1 left)<0 then -1 else szL n3 (szL n2 (szL n1 left))
theorem szL_neg {n:Nat} {left:Int} (h:szL n left<0):szL n left = -1:=by
 unfold szL at h ⊢;split at h
 · rename_i h';rw [if_pos h']
 · omega
theorem szB_le {n1 n2 n3:Nat} {left:Int} (h:¬ szB n1 n2 n3 left<0):(n1:Int)+n2+n3≤left:=by
 unfold szB at h
 split at h
 · omega
 rename_i h1
 split at h
 · omega
 rename_i h2
 obtain ⟨a1,a2⟩:=szL_le h1
 obtain ⟨a3,a4⟩:=szL_le h2
 obtain ⟨a5,a6⟩:=szL_le h
 omega
theorem szBook_any (a1 a2 a3:Option Addr) (n1 c1 n2 c2 n3 c3:Nat) (st left:Int) (w:World) (h1:n1≤9223372036854775807) (h2:n2≤9223372036854775807) (h3:n3≤9223372036854775807) (h4:0≤left) (h5:left≤1048576) :
 Calls Tryz.prog 20 #[.agg #[.int .i64 st,.slice a1 n1 c1,.slice a2 n2 c2,.slice a3 n3 c3],.int .i64 left] w fun e w'=>e=.returned (.int .i64 (szB n1 n2 n3 left))∧Below w.heap.size w w':=by
 obtain ⟨r1,r2⟩:=szL_range n1 left h5
 obtain ⟨r3,r4⟩:=szL_range n2 (szL n1 left) r2
 obtain ⟨r5,r6⟩:=szL_range n3 (szL n2 (szL n1 left)) r4
 obtain ⟨A,hA⟩:∃ A:World,A=w.alloc (.cells #[.int .i64 st,.slice a1 n1 c1,.slice a2 n2 c2,.slice a3 n3 c3] 50):=⟨_,rfl⟩
 have A0:At A w.heap.size [.int .i64 st,.slice a1 n1 c1,.slice a2 n2 c2,.slice a3 n3 c3]:=by rw [hA];exact At.new _ _ _ rfl rfl
 have bA:Below w.heap.size w A:=by rw [hA];exact qBl
 by_cases e1:szL n1 left<0
 · have E:szB n1 n2 n3 left = -1:=by unfold szB;rw [if_pos e1]
   rw [E]
   clear E
   go_enter Tryz.func20,Tryz.ntmps20
   go_wp2_with fail
   rw [← hA]
   clear hA
   refine (szSurvey_any _ _ _ _ _ _ h1 (by omega) (by omega)).mono ?_
   rintro e w1 ⟨rfl,b1⟩
   go_wp2_with fail
   go_ret
   exact ⟨rfl,bA.trans (b1.mono bA.size)⟩
 · by_cases e2:szL n2 (szL n1 left)<0
   · have E:szB n1 n2 n3 left = -1:=by unfold szB;rw [if_neg e1,if_pos e2]
     rw [E]
     clear E
     go_enter Tryz.func20,Tryz.ntmps20
     go_wp2_with fail
     rw [← hA]
     clear hA
     refine (szSurvey_any _ _ _ _ _ _ h1 (by omega) (by omega)).mono ?_
     rintro e w1 ⟨rfl,b1⟩
     obtain ⟨q0,q1,q2,q3,q4,-⟩:=(A0.below b1).four
     go_wp2_with fail
     refine (szDds_any _ _ _ _ _ h2 (by omega) (by omega)).mono ?_
     rintro e w2 ⟨rfl,rfl⟩
     go_wp2_with fail
     go_ret
     exact ⟨rfl,bA.trans (b1.mono bA.size)⟩
   · have E:szB n1 n2 n3 left=szL n3 (szL n2 (szL n1 left)):=by unfold szB;rw [if_neg e1,if_neg e2]
     rw [E]
     clear E
     by_cases e3:szL n3 (szL n2 (szL n1 left))<0
     · rw [szL_neg e3]
       go_enter Tryz.func20,Tryz.ntmps20
       go_wp2_with fail
       rw [← hA]
       clear hA
       refine (szSurvey_any _ _ _ _ _ _ h1 (by omega) (by omega)).mono ?_
       rintro e w1 ⟨rfl,b1⟩
       obtain ⟨q0,q1,q2,q3,q4,-⟩:=(A0.below b1).four
       go_wp2_with fail
       refine (szDds_any _ _ _ _ _ h2 (by omega) (by omega)).mono ?_
       rintro e w2 ⟨rfl,rfl⟩
       go_wp2_with fail
       refine (szDds_any _ _ _ _ _ h3 (by omega) (by omega)).mono ?_
       rintro e w2 ⟨rfl,rfl⟩
       go_wp2_with fail
       go_ret
       exact ⟨by first|rfl|(rw [← szL_neg e3];rfl),bA.trans (b1.mono bA.size)⟩
     · go_enter Tryz.func20,Tryz.ntmps20
       go_wp2_with fail
       rw [← hA]
       clear hA
       refine (szSurvey_any _ _ _ _ _ _ h1 (by omega) (by omega)).mono ?_
       rintro e w1 ⟨rfl,b1⟩
       obtain ⟨q0,q1,q2,q3,q4,-⟩:=(A0.below b1).four
       go_wp2_with fail
       refine (szDds_any _ _ _ _ _ h2 (by omega) (by omega)).mono ?_
       rintro e w2 ⟨rfl,rfl⟩
       go_wp2_with fail
       refine (szDds_any _ _ _ _ _ h3 (by omega) (by omega)).mono ?_
       rintro e w2 ⟨rfl,rfl⟩
       go_wp2_with fail
       go_ret
       exact ⟨rfl,bA.trans (b1.mono bA.size)⟩
end Go.Proofs.YthfoloefkfadlaaGreatDoor

namespace Go.Proofs.YthfoloefkfadlaaGreatDoor
open Go Go.RowKit Go.Sort

structure RdB (w:World) (a1 a2 a3:Option Addr) (b:Bk):Prop where
 l:Legs w a1 b.first.legs
 d:Dds w a2 b.done
 u:Dds w a3 b.undone
theorem RdB.below {w w':World} {a1 a2 a3:Option Addr} {b:Bk} (h:RdB w a1 a2 a3 b) (hb:Below w.heap.size w w'):RdB w' a1 a2 a3 b:=⟨h.l.below hb,h.d.below hb,h.u.below hb⟩
theorem BkOwn.kr {w:World} {B:Nat} {a1 a2 a3:Option Addr} {n1 n2 n3 c1 c2 c3:Nat} {b:Bk} (h:BkOwn w B (.slice a1 n1 c1) (.slice a2 n2 c2) (.slice a3 n3 c3) b):RdB w a1 a2 a3 b:=⟨h.l.kr,h.d.kr,h.u.kr⟩
theorem BkOwn.alloc {w:World} {B:Nat} {v1 v2 v3:Value} {b:Bk} (h:BkOwn w B v1 v2 v3 b) (o:Obj):BkOwn (w.alloc o) B v1 v2 v3 b:=h.below ((Below.refl _ _).alloc (Nat.le_refl _) o)

theorem toDdsE_any (a:Option Addr) (c:Nat) (l:List Dd) (w:World) (hl:l.length≤1048576) (hs:Dds w a l) :
 Calls Tryz.prog 62 #[.slice a l.length c] w fun e w'=>∃ g,e=.returned (.slice (some ⟨g,0,none⟩) l.length l.length)∧OwnD w' w.heap.size (.slice (some ⟨g,0,none⟩) l.length l.length) l∧Below w.heap.size w w' :=
 (toDds_any a c l w hl hs).mono fun _ _ ⟨h1,h2,h3⟩=>⟨_,h1,h2,h3⟩
theorem toBook_any (a1 a2 a3:Option Addr) (c1 c2 c3:Nat) (st:Int) (l:List Lg) (d u:List Dd) (w:World) (hl:l.length≤1048576) (hd:d.length≤1048576) (hu:u.length≤1048576) (hs:RdB w a1 a2 a3 ⟨⟨st,l⟩,d,u⟩) :
 Calls Tryz.prog 22 #[.agg #[.int .i64 st,.slice a1 l.length c1,.slice a2 d.length c2,.slice a3 u.length c3]] w fun e w'=>∃ g1 g2 g3,e=.returned (.agg #[.int .i64 st,.slice (some ⟨g1,0,none⟩) l.length l.length,.slice (some ⟨g2,0,none⟩) d.length d.length,.slice (some ⟨g3,0,none⟩) u.length u.length]) ∧
  BkOwn w' w.heap.size (.slice (some ⟨g1,0,none⟩) l.length l.length) (.slice (some ⟨g2,0,none⟩) d.length d.length) (.slice (some ⟨g3,0,none⟩) u.length u.length) ⟨⟨st,l⟩,d,u⟩∧Below w.heap.size w w':=by
 obtain ⟨X,hX⟩:∃ X,w.heap.size=X:=⟨_,rfl⟩
 obtain ⟨W,hW⟩:∃ W,W=((w.alloc (.cells #[.int .i64 st,.slice a1 l.length c1,.slice a2 d.length c2,.slice a3 u.length c3] 50)).alloc (.cells #[.int .i64 0,.slice none 0 0,.slice none 0 0,.slice none 0 0] 28)).alloc (.cells #[.int .i64 0,.slice none 0 0,.slice none 0 0,.slice none 0 0] 28):=⟨_,rfl⟩
 have A0:At W X [.int .i64 st,.slice a1 l.length c1,.slice a2 d.length c2,.slice a3 u.length c3]:=by rw [hW];exact ((At.new _ _ _ hX.symm rfl).alloc _).alloc _
 have R0:At W (X+1) [.int .i64 0,.slice none 0 0,.slice none 0 0,.slice none 0 0]:=by rw [hW];exact (At.new _ _ _ (by simp [hX]) rfl).alloc _
 have Z0:At W (X+1+1) [.int .i64 0,.slice none 0 0,.slice none 0 0,.slice none 0 0]:=by rw [hW];exact At.new _ _ _ (by simp [hX]) rfl
 have bW:Below w.heap.size w W:=by rw [hW];exact qBl
 go_enter Tryz.func22,Tryz.ntmps22
 go_wp2_with fail
 rw [← hW]
 have sW:=Z0.lt
 clear hW
 refine (toSurvey_any _ _ st l _ hl (hs.l.below bW)).mono ?_
 rintro e w1 ⟨g1,rfl,o1,c1⟩
 replace A0:=A0.below c1
 replace R0:=R0.below c1
 replace Z0:=Z0.below c1
 replace bW:=bW.trans (c1.mono bW.size)
 clear c1
 obtain ⟨z0,z1,z2,z3,z4,z5⟩:=Z0.facts4
 obtain ⟨q0,q1,q2,q3,q4,-⟩:=A0.facts4
 have hX2:X≠X+1+1:=by omega
 have hX3:X+1≠X+1+1:=by omega
 go_wp2_with fail
 replace A0:=(A0.setOther (p:=⟨X+1+1,0,none⟩) hX2 (.int .i64 st)).setOther (p:=⟨X+1+1,1,none⟩) hX2 (.slice (some ⟨g1,0,none⟩) l.length l.length)
 replace R0:=(R0.setOther (p:=⟨X+1+1,0,none⟩) hX3 (.int .i64 st)).setOther (p:=⟨X+1+1,1,none⟩) hX3 (.slice (some ⟨g1,0,none⟩) l.length l.length)
 replace Z0:=(Z0.set 0 (.int .i64 st)).set 1 (.slice (some ⟨g1,0,none⟩) l.length l.length)
 replace o1:=(o1.setCell (p:=⟨X+1+1,0,none⟩) sW (.int .i64 st)).setCell (p:=⟨X+1+1,1,none⟩) sW (.slice (some ⟨g1,0,none⟩) l.length l.length)
 replace bW:=(bW.setCell (p:=⟨X+1+1,0,none⟩) (by show _≤X+1+1;omega) (.int .i64 st)).setCell (p:=⟨X+1+1,1,none⟩) (by show _≤X+1+1;omega) (.slice (some ⟨g1,0,none⟩) l.length l.length)
 clear z0 z1 z2 z3 z4 z5 q0 q1 q2 q3 q4
 generalize (w1.setCell ⟨X+1+1,0,none⟩ (.int .i64 st)).setCell ⟨X+1+1,1,none⟩ (.slice (some ⟨g1,0,none⟩) l.length l.length)=W2 at A0 R0 Z0 o1 bW ⊢
 refine (toDdsE_any _ _ d _ hd (hs.d.below bW)).mono ?_
 rintro e w3 ⟨g2,rfl,o2,c3⟩
 replace A0:=A0.below c3
 replace R0:=R0.below c3
 replace Z0:=Z0.below c3
 have n12:∀ k,(Value.slice (some ⟨g1,0,none⟩) l.length l.length).ownBlock=some k→(Value.slice (some ⟨g2,0,none⟩) d.length d.length).ownBlock≠some k:=fun k h1 h2=>by have:=(o1.lt h1).2;have:=(o2.lt h2).1;omega
 have s2:X+1+1<W2.heap.size:=by have:=(o1.lt (k:=g1) rfl).1;have:=(o1.lt (k:=g1) rfl).2;omega
 have hB2:W.heap.size≤W2.heap.size:=by have:=(o1.lt (k:=g1) rfl).1;have:=(o1.lt (k:=g1) rfl).2;omega
 replace o1:=o1.below c3
 replace bW:=bW.trans (c3.mono bW.size)
 clear c3
 obtain ⟨z0,z1,z2,z3,z4,z5⟩:=Z0.facts4
 obtain ⟨q0,q1,q2,q3,q4,-⟩:=A0.facts4
 go_wp2_with fail
 replace A0:=A0.setOther (p:=⟨X+1+1,2,none⟩) hX2 (.slice (some ⟨g2,0,none⟩) d.length d.length)
 replace R0:=R0.setOther (p:=⟨X+1+1,2,none⟩) hX3 (.slice (some ⟨g2,0,none⟩) d.length d.length)
 replace Z0:=Z0.set 2 (.slice (some ⟨g2,0,none⟩) d.length d.length)
 replace o1:=o1.setCell (p:=⟨X+1+1,2,none⟩) sW (.slice (some ⟨g2,0,none⟩) d.length d.length)
 replace o2:=o2.setCell (p:=⟨X+1+1,2,none⟩) s2 (.slice (some ⟨g2,0,none⟩) d.length d.length)
 replace bW:=bW.setCell (p:=⟨X+1+1,2,none⟩) (by show _≤X+1+1;omega) (.slice (some ⟨g2,0,none⟩) d.length d.length)
 clear z0 z1 z2 z3 z4 z5 q0 q1 q2 q3 q4
 generalize w3.setCell ⟨X+1+1,2,none⟩ (.slice (some ⟨g2,0,none⟩) d.length d.length)=W4 at A0 R0 Z0 o1 o2 bW ⊢
 refine (toDdsE_any _ _ u _ hu (hs.u.below bW)).mono ?_
 rintro e w5 ⟨g3,rfl,o3,c5⟩
 replace R0:=R0.below c5
 replace Z0:=Z0.below c5
 have n13:∀ k,(Value.slice (some ⟨g1,0,none⟩) l.length l.length).ownBlock=some k→(Value.slice (some ⟨g3,0,none⟩) u.length u.length).ownBlock≠some k:=fun k h1 h2=>by have:=(o1.lt h1).2;have:=(o3.lt h2).1;omega
 have n23:∀ k,(Value.slice (some ⟨g2,0,none⟩) d.length d.length).ownBlock=some k→(Value.slice (some ⟨g3,0,none⟩) u.length u.length).ownBlock≠some k:=fun k h1 h2=>by have:=(o2.lt h1).2;have:=(o3.lt h2).1;omega
 have s4:X+1+1<W4.heap.size:=by have:=(o2.lt (k:=g2) rfl).1;have:=(o2.lt (k:=g2) rfl).2;omega
 have hB4:W.heap.size≤W4.heap.size:=by have:=(o2.lt (k:=g2) rfl).1;have:=(o2.lt (k:=g2) rfl).2;omega
 replace o1:=o1.below c5
 replace o2:=o2.below c5
 have hwX:w.heap.size≤X:=by omega
 replace bW:=bW.trans (c5.mono bW.size)
 clear c5 A0
 have hX4:X+1+1≠X+1:=by omega
 obtain ⟨z0,z1,z2,z3,z4,z5⟩:=Z0.facts4
 obtain ⟨r0,r1,r2,r3,r4,r5⟩:=R0.facts4
 go_wp2_with fail
 have BO:BkOwn w5 W.heap.size (.slice (some ⟨g1,0,none⟩) l.length l.length) (.slice (some ⟨g2,0,none⟩) d.length d.length) (.slice (some ⟨g3,0,none⟩) u.length u.length) ⟨⟨st,l⟩,d,u⟩ :=
  ⟨o1,o2.mono hB2,o3.mono hB4,n12,n13,n23⟩
 refine bodyPost_ret (v:=.agg #[.int .i64 st,.slice (some ⟨g1,0,none⟩) l.length l.length,.slice (some ⟨g2,0,none⟩) d.length d.length,.slice (some ⟨g3,0,none⟩) u.length u.length]) (by simp [results,Tryz.results22,go_sem,r1,r2,r3,r4]) rfl ⟨g1,g2,g3,rfl,?_,?_⟩
 · refine BkOwn.mono (B:=W.heap.size) ?_ (by omega)
   repeat (first|with_reducible exact BO|refine BkOwn.setCell ?_ (by show _<W.heap.size;simp only;omega) _)
 · exact qHb
theorem own_slice (a:Option Addr) (n c n' c':Nat):(Value.slice a n c).ownBlock=(Value.slice a n' c').ownBlock:=by
 cases a <;> rfl

theorem svOk_len {s:Sv} (h:svOk s=true):s.legs.length≤9:=(svOk_iff.1 h).2.2.1
theorem eqBook_any (a1 a2 a3 a1' a2' a3':Option Addr) (c1 c2 c3 c1' c2' c3':Nat) (st:Int) (l:List Lg) (d u:List Dd) (w:World) (hl:l.length≤1048580) (hd:d.length≤1048580) (hu:u.length≤1048580) (h1:RdB w a1 a2 a3 ⟨⟨st,l⟩,d,u⟩) (h2:RdB w a1' a2' a3' ⟨⟨st,l⟩,d,u⟩) :
 Calls Tryz.prog 24 #[.agg #[.int .i64 st,.slice a1 l.length c1,.slice a2 d.length c2,.slice a3 u.length c3],.agg #[.int .i64 st,.slice a1' l.length c1',.slice a2' d.length c2',.slice a3' u.length c3']] w fun e w'=>e=.returned (.bool true)∧Below w.heap.size w w':=by
 obtain ⟨X,hX⟩:∃ X,w.heap.size=X:=⟨_,rfl⟩
 obtain ⟨W,hW⟩:∃ W,W=(w.alloc (.cells #[.int .i64 st,.slice a1 l.length c1,.slice a2 d.length c2,.slice a3 u.length c3] 28)).alloc (.cells #[.int .i64 st,.slice a1' l.length c1',.slice a2' d.length c2',.slice a3' u.length c3'] 28):=⟨_,rfl⟩
 have A0:At W X [.int .i64 st,.slice a1 l.length c1,.slice a2 d.length c2,.slice a3 u.length c3]:=by rw [hW];exact (At.new _ _ _ hX.symm rfl).alloc _
 have R0:At W (X+1) [.int .i64 st,.slice a1' l.length c1',.slice a2' d.length c2',.slice a3' u.length c3']:=by rw [hW];exact At.new _ _ _ (by simp [hX]) rfl
 have bW:Below w.heap.size w W:=by rw [hW];exact qBl
 go_enter Tryz.func24,Tryz.ntmps24
 go_wp2_with fail
 rw [← hW]
 clear hW
 refine (eqSurvey_any _ _ _ _ st l _ hl (h1.l.below bW) (h2.l.below bW)).mono ?_
 rintro e w1 ⟨rfl,k1⟩
 replace A0:=A0.below k1
 replace R0:=R0.below k1
 replace bW:=bW.trans (k1.mono bW.size)
 clear k1
 obtain ⟨z0,z1,z2,z3,z4,-⟩:=A0.facts4
 obtain ⟨q0,q1,q2,q3,q4,-⟩:=R0.facts4
 go_wp2_with fail
 refine (eqDds_any _ _ _ _ d _ hd (h1.d.below bW) (h2.d.below bW)).mono ?_
 rintro e w2 ⟨rfl,k2⟩
 replace A0:=A0.below k2
 replace R0:=R0.below k2
 replace bW:=bW.trans (k2.mono bW.size)
 clear k2 z0 z1 z2 z3 z4 q0 q1 q2 q3 q4
 obtain ⟨z0,z1,z2,z3,z4,-⟩:=A0.facts4
 obtain ⟨q0,q1,q2,q3,q4,-⟩:=R0.facts4
 go_wp2_with fail
 refine (eqDds_any _ _ _ _ u _ hu (h1.u.below bW) (h2.u.below bW)).mono ?_
 rintro e w3 ⟨rfl,k3⟩
 replace bW:=bW.trans (k3.mono bW.size)
 clear k3 z0 z1 z2 z3 z4 q0 q1 q2 q3 q4 A0 R0
 go_wp2_with fail
 go_ret
 exact ⟨rfl,bW⟩
def bkMark (k:Int) (b:Bk):Bk:=⟨⟨b.first.st,marks k b.first.legs.length⟩,marksD (k+5*(b.first.legs.length:Int)) b.done.length,marksD (k+5*(b.first.legs.length:Int)+7*(b.done.length:Int)) b.undone.length⟩

theorem markBook_any (B:Nat) (a1 a2 a3:Option Addr) (c1 c2 c3:Nat) (st:Int) (l:List Lg) (d u:List Dd) (k:Int) (w:World) (hl:l.length≤1048580) (hd:d.length≤1048580) (hu:u.length≤1048580) (hk0:0≤k) (hk:k≤10000000) (hB:B≤w.heap.size)
 (ho:BkOwn w B (.slice a1 l.length c1) (.slice a2 d.length c2) (.slice a3 u.length c3) ⟨⟨st,l⟩,d,u⟩) :
 Calls Tryz.prog 25 #[.agg #[.int .i64 st,.slice a1 l.length c1,.slice a2 d.length c2,.slice a3 u.length c3],.int .i64 k] w fun e w'=>e=.returned (.int .i64 (k+5*(l.length:Int)+7*(d.length:Int)+7*(u.length:Int))) ∧
  BkOwn w' B (.slice a1 l.length c1) (.slice a2 d.length c2) (.slice a3 u.length c3) (bkMark k ⟨⟨st,l⟩,d,u⟩)∧Wr (bkBlk (.slice a1 l.length c1) (.slice a2 d.length c2) (.slice a3 u.length c3)) w w':=by
 obtain ⟨X,hX⟩:∃ X,w.heap.size=X:=⟨_,rfl⟩
 obtain ⟨W,hW⟩:∃ W,W=w.alloc (.cells #[.int .i64 st,.slice a1 l.length c1,.slice a2 d.length c2,.slice a3 u.length c3] 28):=⟨_,rfl⟩
 have A0:At W X [.int .i64 st,.slice a1 l.length c1,.slice a2 d.length c2,.slice a3 u.length c3]:=by rw [hW];exact At.new _ _ _ hX.symm rfl
 have bW:Below w.heap.size w W:=by rw [hW];exact qBl
 have hlt:∀ j,bkBlk (.slice a1 l.length c1) (.slice a2 d.length c2) (.slice a3 u.length c3) j→j≠X:=fun j hj=>by have:=(ho.blk hj).2;omega
 have wW:Wr (bkBlk (.slice a1 l.length c1) (.slice a2 d.length c2) (.slice a3 u.length c3)) w W:=.ofBelow bW
 have oW:=ho.below bW
 go_enter Tryz.func25,Tryz.ntmps25
 go_wp2_with fail
 rw [← hW]
 clear hW ho
 refine (markSurvey_any B _ _ st l k _ hl hk0 (by omega) oW.l).mono ?_
 rintro e w1 ⟨rfl,o1,g1⟩
 have r1:Wr (fun j=>(Value.slice a1 l.length c1).ownBlock=some j) W w1:=.ofGrown g1 fun j hj=>(own_slice _ _ _ _ _).trans hj
 clear g1
 have e1:OwnD w1 B (.slice a2 d.length c2) d:=oW.d.wr r1 fun j hj h=>oW.ne12 j h hj
 have e2:OwnD w1 B (.slice a3 u.length c3) u:=oW.u.wr r1 fun j hj h=>oW.ne13 j h hj
 replace wW:=wW.trans ⟨r1.os,r1.tape,r1.output,r1.size,fun j h1 h2=>r1.block j h1 fun h=>h2 (.inl h)⟩
 replace A0:=A0.block (r1.block X A0.lt fun h=>hlt X (.inl h) rfl)
 clear r1
 obtain ⟨z0,z1,z2,z3,z4,-⟩:=A0.facts4
 have hs1:0≤k+5*(l.length:Int):=by omega
 go_wp2_with fail
 refine (markDds_any B _ _ d (k+5*(l.length:Int)) _ hd hs1 (by omega) e1).mono ?_
 rintro e w2 ⟨rfl,o2,g2⟩
 have r2:Wr (fun j=>(Value.slice a2 d.length c2).ownBlock=some j) w1 w2:=.ofGrown g2 fun j hj=>(own_slice _ _ _ _ _).trans hj
 clear g2 e1
 replace o1:=o1.wr r2 fun j hj h=>oW.ne12 j hj h
 replace e2:OwnD w2 B (.slice a3 u.length c3) u:=e2.wr r2 fun j hj h=>oW.ne23 j h hj
 replace wW:=wW.trans ⟨r2.os,r2.tape,r2.output,r2.size,fun j h1 h2=>r2.block j h1 fun h=>h2 (.inr (.inl h))⟩
 replace A0:=A0.block (r2.block X A0.lt fun h=>hlt X (.inr (.inl h)) rfl)
 clear r2 z0 z1 z2 z3 z4
 obtain ⟨z0,z1,z2,z3,z4,-⟩:=A0.facts4
 have hs2:0≤k+5*(l.length:Int)+7*(d.length:Int):=by omega
 go_wp2_with fail
 refine (markDds_any B _ _ u (k+5*(l.length:Int)+7*(d.length:Int)) _ hu hs2 (by omega) e2).mono ?_
 rintro e w3 ⟨rfl,o3,g3⟩
 have r3:Wr (fun j=>(Value.slice a3 u.length c3).ownBlock=some j) w2 w3:=.ofGrown g3 fun j hj=>(own_slice _ _ _ _ _).trans hj
 clear g3 e2
 replace o1:=o1.wr r3 fun j hj h=>oW.ne13 j hj h
 replace o2:=o2.wr r3 fun j hj h=>oW.ne23 j hj h
 replace wW:=wW.trans ⟨r3.os,r3.tape,r3.output,r3.size,fun j h1 h2=>r3.block j h1 fun h=>h2 (.inr (.inr h))⟩
 clear r3 z0 z1 z2 z3 z4 A0
 go_wp2_with fail
 go_ret
 exact ⟨rfl,⟨o1,o2,o3,oW.ne12,oW.ne13,oW.ne23⟩,wW⟩

theorem heldBook_any (a1 a2 a3:Option Addr) (n1 n2 n3 c1 c2 c3:Nat) (st k:Int) (b:Bk) (w:World) (e1:b.first.legs.length=n1) (e2:b.done.length=n2) (e3:b.undone.length=n3) (hl:n1≤1048580) (hd:n2≤1048580) (hu:n3≤1048580) (hk0:0≤k) (hk:k≤10000000) (hs:RdB w a1 a2 a3 (bkMark k b)) :
 Calls Tryz.prog 26 #[.agg #[.int .i64 st,.slice a1 n1 c1,.slice a2 n2 c2,.slice a3 n3 c3],.int .i64 k] w fun e w'=>e=.returned (.int .i64 (k+5*(n1:Int)+7*(n2:Int)+7*(n3:Int)))∧Below w.heap.size w w':=by
 obtain ⟨X,hX⟩:∃ X,w.heap.size=X:=⟨_,rfl⟩
 obtain ⟨W,hW⟩:∃ W,W=w.alloc (.cells #[.int .i64 st,.slice a1 n1 c1,.slice a2 n2 c2,.slice a3 n3 c3] 28):=⟨_,rfl⟩
 have A0:At W X [.int .i64 st,.slice a1 n1 c1,.slice a2 n2 c2,.slice a3 n3 c3]:=by rw [hW];exact At.new _ _ _ hX.symm rfl
 have bW:Below w.heap.size w W:=by rw [hW];exact qBl
 have hs1:0≤k+5*(n1:Int):=by omega
 have hs2:0≤k+5*(n1:Int)+7*(n2:Int):=by omega
 have hs3:0≤k+5*(n1:Int)+7*(n2:Int)+7*(n3:Int):=by omega
 have d1:Legs w a1 (marks k n1):=by have:=hs.l;simp only [bkMark,e1] at this;exact this
 have d2:Dds w a2 (marksD (k+5*(n1:Int)) n2):=by have:=hs.d;simp only [bkMark,e1,e2] at this;exact this
 have d3:Dds w a3 (marksD (k+5*(n1:Int)+7*(n2:Int)) n3):=by have:=hs.u;simp only [bkMark,e1,e2,e3] at this;exact this
 clear e1 e2 e3 hs
 go_enter Tryz.func26,Tryz.ntmps26
 go_wp2_with fail
 rw [← hW]
 clear hW
 refine (heldSurvey_any _ _ n1 st k _ hl hk0 (by omega) (d1.below bW)).mono ?_
 rintro e w1 ⟨rfl,k1⟩
 replace A0:=A0.below k1
 replace bW:=bW.trans (k1.mono bW.size)
 clear k1
 obtain ⟨z0,z1,z2,z3,z4,-⟩:=A0.facts4
 go_wp2_with fail
 refine (heldDds_any _ _ n2 _ _ hd hs1 (by omega) (d2.below bW)).mono ?_
 rintro e w2 ⟨rfl,rfl⟩
 go_wp2_with fail
 refine (heldDds_any _ _ n3 _ _ hu hs2 (by omega) (d3.below bW)).mono ?_
 rintro e w2 ⟨rfl,rfl⟩
 go_wp2_with fail
 go_ret
 exact ⟨rfl,bW⟩

def BoxS (V:World) (s:Sv) (p:Value) (w:World):Prop:=∃ g a c,p=.pointer (some ⟨g,0,none⟩)∧V.heap.size≤g∧At w g [.int .i64 s.st,.slice a s.legs.length c]∧OwnL w V.heap.size (.slice a s.legs.length c) s.legs ∧
 (∀ k,(Value.slice a s.legs.length c).ownBlock=some k→k≠g)∧Below V.heap.size V w
theorem boxS_new {V w:World} {s:Sv} {a:Option Addr} {c B:Nat} {T:TypeId} (o:OwnL w B (.slice a s.legs.length c) s.legs) (hB:V.heap.size≤B) (b:Below V.heap.size V w) :
 BoxS V s (.pointer (some ⟨w.heap.size,0,none⟩)) (w.alloc (.cells #[.int .i64 s.st,.slice a s.legs.length c] T)) :=
 ⟨_,a,c,rfl,b.size,At.new _ _ _ rfl rfl,(o.alloc _).mono hB,fun k hk=>by have:=(o.lt hk).2;omega,b.alloc b.size _⟩
theorem boxS_old {V w:World} {s:Sv} {a:Option Addr} {c B g:Nat} {u0 u1:Value} (A:At w g [u0,u1]) (hV:V.heap.size≤g) (o:OwnL w B (.slice a s.legs.length c) s.legs) (hB:V.heap.size≤B) (hg:g<B) (b:Below V.heap.size V w) :
 BoxS V s (.pointer (some ⟨g,0,none⟩)) ((w.setCell ⟨g,0,none⟩ (.int .i64 s.st)).setCell ⟨g,1,none⟩ (.slice a s.legs.length c)) :=
 ⟨_,a,c,rfl,hV,A.sets2 _ _,((o.setCell (p:=⟨g,0,none⟩) hg _).setCell (p:=⟨g,1,none⟩) hg _).mono hB,fun k hk=>by have:=(o.lt hk).1;omega,(b.setCell (p:=⟨g,0,none⟩) hV _).setCell (p:=⟨g,1,none⟩) hV _⟩
def BoxB (V:World) (b:Bk) (p:Value) (w:World):Prop:=∃ g a1 a2 a3 c1 c2 c3,p=.pointer (some ⟨g,0,none⟩)∧V.heap.size≤g∧At w g [.int .i64 b.first.st,.slice a1 b.first.legs.length c1,.slice a2 b.done.length c2,.slice a3 b.undone.length c3] ∧
 BkOwn w V.heap.size (.slice a1 b.first.legs.length c1) (.slice a2 b.done.length c2) (.slice a3 b.undone.length c3) b∧(∀ k,bkBlk (.slice a1 b.first.legs.length c1) (.slice a2 b.done.length c2) (.slice a3 b.undone.length c3) k→k≠g)∧Below V.heap.size V w
theorem boxB_new {V w:World} {b:Bk} {a1 a2 a3:Option Addr} {c1 c2 c3 B:Nat} {T:TypeId} (o:BkOwn w B (.slice a1 b.first.legs.length c1) (.slice a2 b.done.length c2) (.slice a3 b.undone.length c3) b) (hB:V.heap.size≤B) (hb:Below V.heap.size V w) :
 BoxB V b (.pointer (some ⟨w.heap.size,0,none⟩)) (w.alloc (.cells #[.int .i64 b.first.st,.slice a1 b.first.legs.length c1,.slice a2 b.done.length c2,.slice a3 b.undone.length c3] T)) :=
 ⟨_,a1,a2,a3,c1,c2,c3,rfl,hb.size,At.new _ _ _ rfl rfl,(o.alloc _).mono hB,fun k hk=>by have:=(o.blk hk).2;omega,hb.alloc hb.size _⟩
theorem boxB_old {V w:World} {b:Bk} {a1 a2 a3:Option Addr} {c1 c2 c3 B g:Nat} {u0 u1 u2 u3:Value} (A:At w g [u0,u1,u2,u3]) (hV:V.heap.size≤g) (o:BkOwn w B (.slice a1 b.first.legs.length c1) (.slice a2 b.done.length c2) (.slice a3 b.undone.length c3) b) (hB:V.heap.size≤B) (hg:g<B) (hb:Below V.heap.size V w) :
 BoxB V b (.pointer (some ⟨g,0,none⟩)) ((((w.setCell ⟨g,0,none⟩ (.int .i64 b.first.st)).setCell ⟨g,1,none⟩ (.slice a1 b.first.legs.length c1)).setCell ⟨g,2,none⟩ (.slice a2 b.done.length c2)).setCell ⟨g,3,none⟩ (.slice a3 b.undone.length c3)) :=
 ⟨_,a1,a2,a3,c1,c2,c3,rfl,hV,A.sets4 _ _ _ _,((((o.setCell (p:=⟨g,0,none⟩) hg _).setCell (p:=⟨g,1,none⟩) hg _).setCell (p:=⟨g,2,none⟩) hg _).setCell (p:=⟨g,3,none⟩) hg _).mono hB,fun k hk=>by have:=(o.blk hk).1;omega,
  (((hb.setCell (p:=⟨g,0,none⟩) hV _).setCell (p:=⟨g,1,none⟩) hV _).setCell (p:=⟨g,2,none⟩) hV _).setCell (p:=⟨g,3,none⟩) hV _⟩
end Go.Proofs.YthfoloefkfadlaaGreatDoor
