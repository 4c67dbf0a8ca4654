/- Walks: texts of legs: strconv.Itoa, impl.wayText, impl.legWay, impl.LegText. Walks: texts in the reference: spec.l1Number. Walks: texts of legs in the reference; names of the kinds of deeds in both. Walks: texts of deeds, impl and spec. Walks: spec.DeedText; the law FnExactDeedText. Walks: texts of surveys, impl and spec. Plain law of texts: how long they are; a separator behind a text. No program. Walks: the laws' own comparisons of surveys, of lists of deeds and of books; alive. Texts of books: what they are. No program. -/
import Derived.Test.YthfoloefkfadlaaGreatDoorK2
import Derived.Test.YthfoloefkfadlaaGreatDoorShelf
import Derived.Lib.QuietBelow
import Derived.Lib.ItoaLen
import Derived.Lib.AppendIntMem
import Derived.Lib.ItoaMem
import Derived.Laws.IdiomStrings
import Derived.Test.YthfoloefkfadlaaGreatDoorK3
import Derived.StillTailTactics
import Derived.Deep.RegionHeld3
import Derived.Deep.DeepCutAuto
set_option linter.unusedSimpArgs false
set_option linter.unusedVariables false
namespace Go.Proofs.YthfoloefkfadlaaGreatDoor
open Go Go.RowKit Go.Sort

def Pow (w:World):Prop:=Lib.TabIs Tryz.prog w "internal/strconv.uint64pow10" .u64 Lib.pow10Tab
theorem Pow.below {w w':World} (h:Pow w) (hb:Below w.heap.size w w'):Pow w':=Lib.tabBelow_of_tabIs h w' hb

def itoaB (n:Int):ByteArray:=⟨(Lib.itoa n).toArray⟩
theorem itoaB_size {n:Int} (h0 : -9223372036854775808≤n) (h1:n≤9223372036854775807):(itoaB n).size≤21:=by
 have:=Lib.itoa_length_le n h0 h1
 simpa [itoaB,ByteArray.size] using this

theorem itoa_any (n:Int) (h0 : -9223372036854775808≤n) (h1:n≤9223372036854775807) (w:World) (h:Pow w) :
 Calls Tryz.prog 88 #[.int .i64 n] w fun e w'=>e=.returned (.string (itoaB n))∧Below w.heap.size w w' :=
 (Tryz.strconv_Itoa n h0 h1 w h).mono fun e w' ⟨he,k,os,hw⟩=>⟨he,by
  subst hw
  exact ⟨rfl,rfl,rfl,by simp [grow,World.drewN],fun j hj=>by simp [grow,World.drewN,Array.getElem?_append,hj]⟩⟩

theorem grown_calls {f:FuncId} {args:Array Value} {w:World} {v:Value} (hp:Pow w)
 (h:∀ w,Pow w→Calls Tryz.prog f args w fun e w'=>e=.returned v∧Below w.heap.size w w') (d:Nat) (os:Array Obj) :
 Calls Tryz.prog f args (grow (redrawn w d) os) fun e w''=>e=.returned v∧∃ p:Regrown,w''=grow (redrawn w p.d) p.os :=
 Calls.regrown_of (h _ (hp.below (below_regrown w d os)))

def wayB (a b c:Int):ByteArray:=itoaB a ++ ⟨#[44]⟩ ++ itoaB b ++ ⟨#[44]⟩ ++ itoaB c
theorem wayText_any (a b c:Int) (ha : -9223372036854775808≤a∧a≤9223372036854775807) (hb : -9223372036854775808≤b∧b≤9223372036854775807) (hc : -9223372036854775808≤c∧c≤9223372036854775807) (w:World) (hp:Pow w) :
 Calls Tryz.prog 89 #[.agg #[.int .i64 a,.int .i64 b,.int .i64 c]] w fun e w'=>e=.returned (.string (wayB a b c))∧Below w.heap.size w w':=by
 have s1:=itoaB_size ha.1 ha.2
 have s2:=itoaB_size hb.1 hb.2
 have s3:=itoaB_size hc.1 hc.2
 go_enter Tryz.func89,Tryz.ntmps89
 go_wp2_with fail
 obtain ⟨W,hW⟩:∃ W,W=w.alloc (.cells #[.int .i64 a,.int .i64 b,.int .i64 c] 109):=⟨_,rfl⟩
 have bW:Below w.heap.size w W:=by rw [hW];exact qBl
 have c1:W.cell? ⟨w.heap.size,0,none⟩=some (.int .i64 a):=by rw [hW];simp
 have c2:W.cell? ⟨w.heap.size,1,none⟩=some (.int .i64 b):=by rw [hW];simp
 have c3:W.cell? ⟨w.heap.size,2,none⟩=some (.int .i64 c):=by rw [hW];simp
 rw [← hW]
 have pW:=hp.below bW
 clear hW
 have k1:=cell_regrown c1
 have k2:=cell_regrown c2
 have k3:=cell_regrown c3
 have i1:=grown_calls pW (itoa_any a ha.1 ha.2)
 have i2:=grown_calls pW (itoa_any b hb.1 hb.2)
 have i3:=grown_calls pW (itoa_any c hc.1 hc.2)
 have n1:¬ 9223372036854775807<(itoaB a).size+1:=by omega
 have n2:¬ 9223372036854775807<(itoaB a).size+1+(itoaB b).size:=by omega
 have n3:¬ 9223372036854775807<(itoaB a).size+1+(itoaB b).size+1:=by omega
 have n4:¬ 9223372036854775807<(itoaB a).size+1+(itoaB b).size+1+(itoaB c).size:=by omega
 refine wp_region_quiet_below (by kernel_rfl) (by kernel_rfl) ?_
 repeat (quiet_step (first|with_reducible exact i1 _ _|with_reducible exact i2 _ _|with_reducible exact i3 _ _))
 refine wpQuiet_nil ?_
 intro _ hw'
 obtain ⟨⟨dq,osq⟩,hw''⟩:=hw'
 have fin:Below w.heap.size w (grow (redrawn W dq) osq):=bW.trans ((below_regrown W dq osq).mono bW.size)
 subst hw''
 generalize grow (redrawn W dq) osq=W2 at fin ⊢
 go_wp2
 go_ret
 exact ⟨by simp only [wayB];rfl,fin⟩

theorem legWay_any (g:Lg) (w:World) :
 Calls Tryz.prog 90 #[g.val] w fun e w'=>e=.returned (.agg #[.int .i64 g.east,.int .i64 g.north,.int .i64 g.up])∧Below w.heap.size w w':=by
 obtain ⟨x1,x2,x3,x4,x5⟩:=g
 show Calls Tryz.prog 90 #[.agg #[.int .i64 x1,.int .i64 x2,.int .i64 x3,.int .i64 x4,.int .i64 x5]] w _
 go_enter Tryz.func90,Tryz.ntmps90
 go_wp2
 refine bodyPost_ret (v:=.agg #[.int .i64 x3,.int .i64 x4,.int .i64 x5]) (by simp [results,Tryz.results90,go_sem]) rfl ⟨rfl,qBl⟩

def legB (g:Lg):ByteArray:=if legOk 6 g then itoaB g.frm ++ ⟨#[62]⟩ ++ itoaB g.to ++ ⟨#[58]⟩ ++ wayB g.east g.north g.up else ⟨#[]⟩

theorem legText_any (g:Lg) (w:World) (hp:Pow w) :
 Calls Tryz.prog 45 #[g.val] w fun e w'=>e=.returned (.string (legB g))∧Below w.heap.size w w':=by
 cases hv:legOk 6 g
 · have hB:legB g=⟨#[]⟩:=by simp [legB,hv]
   obtain ⟨x1,x2,x3,x4,x5⟩:=g
   show Calls Tryz.prog 45 #[.agg #[.int .i64 x1,.int .i64 x2,.int .i64 x3,.int .i64 x4,.int .i64 x5]] w _
   have HB:=Lib.hid hB
   clear hB
   go_enter Tryz.func45,Tryz.ntmps45
   go_wp2_with (go_at_call 87;refine (legValid_any 6 ⟨x1,x2,x3,x4,x5⟩ _).mono ?_;rintro e w' ⟨rfl,hb⟩)
   go_ret
   exact ⟨by rw [HB.out];rfl,((Below.refl _ _).alloc (Nat.le_refl _) _).trans (hb.mono (by simp))⟩
 obtain ⟨hr1,hr2,hr3,hr4,hr5⟩:=legOk_range (by omega) hv
 have hB:legB g=itoaB g.frm ++ ⟨#[62]⟩ ++ itoaB g.to ++ ⟨#[58]⟩ ++ wayB g.east g.north g.up:=by simp [legB,hv]
 obtain ⟨x1,x2,x3,x4,x5⟩:=g
 simp only at hr1 hr2 hr3 hr4 hr5 hB
 show Calls Tryz.prog 45 #[.agg #[.int .i64 x1,.int .i64 x2,.int .i64 x3,.int .i64 x4,.int .i64 x5]] w _
 have HB:=Lib.hid hB
 clear hB
 have s1:=itoaB_size (n:=x1) (by omega) (by omega)
 have s2:=itoaB_size (n:=x2) (by omega) (by omega)
 have s3:=itoaB_size (n:=x3) (by omega) (by omega)
 have s4:=itoaB_size (n:=x4) (by omega) (by omega)
 have s5:=itoaB_size (n:=x5) (by omega) (by omega)
 have s6:(wayB x3 x4 x5).size≤65:=by unfold wayB;simp only [ByteArray.size_append];show _+1+_+1+_≤_;omega
 go_enter Tryz.func45,Tryz.ntmps45
 go_wp2_with (go_at_call 87;refine (legValid_any 6 ⟨x1,x2,x3,x4,x5⟩ _).mono ?_;rintro e W ⟨rfl,hb⟩)
 have bW:Below w.heap.size w W:=((Below.refl _ _).alloc (Nat.le_refl _) _).trans (hb.mono (by simp))
 have cc:=fun i=>hb.cell (p:=⟨w.heap.size,i,none⟩) (by simp)
 have c1:W.cell? ⟨w.heap.size,0,none⟩=some (.int .i64 x1):=by rw [cc];simp
 have c2:W.cell? ⟨w.heap.size,1,none⟩=some (.int .i64 x2):=by rw [cc];simp
 have c3:W.cell? ⟨w.heap.size,2,none⟩=some (.int .i64 x3):=by rw [cc];simp
 have c4:W.cell? ⟨w.heap.size,3,none⟩=some (.int .i64 x4):=by rw [cc];simp
 have c5:W.cell? ⟨w.heap.size,4,none⟩=some (.int .i64 x5):=by rw [cc];simp
 have pW:=hp.below bW
 clear cc hb
 have k1:=cell_regrown c1
 have k2:=cell_regrown c2
 have k3:=cell_regrown c3
 have k4:=cell_regrown c4
 have k5:=cell_regrown c5
 have i1:=grown_calls pW (itoa_any x1 (by omega) (by omega))
 have i2:=grown_calls pW (itoa_any x2 (by omega) (by omega))
 have i3:=grown_calls pW (fun w _=>legWay_any ⟨x1,x2,x3,x4,x5⟩ w)
 have i4:=grown_calls pW (wayText_any x3 x4 x5 (by omega) (by omega) (by omega))
 simp only [Lg.val] at i3
 have n1:¬ 9223372036854775807<(itoaB x1).size+1:=by omega
 have n2:¬ 9223372036854775807<(itoaB x1).size+1+(itoaB x2).size:=by omega
 have n3:¬ 9223372036854775807<(itoaB x1).size+1+(itoaB x2).size+1:=by omega
 have n4:¬ 9223372036854775807<(itoaB x1).size+1+(itoaB x2).size+1+(wayB x3 x4 x5).size:=by omega
 refine wp_region_quiet_below (by kernel_rfl) (by kernel_rfl) ?_
 repeat (quiet_step (first|with_reducible exact i1 _ _|with_reducible exact i2 _ _|with_reducible exact i3 _ _|with_reducible exact i4 _ _))
 refine wpQuiet_nil ?_
 intro _ hw'
 obtain ⟨⟨dq,osq⟩,hw''⟩:=hw'
 have fin:Below w.heap.size w (grow (redrawn W dq) osq):=bW.trans ((below_regrown W dq osq).mono bW.size)
 subst hw''
 generalize grow (redrawn W dq) osq=W2 at fin ⊢
 go_wp2
 go_ret
 exact ⟨by rw [HB.out];rfl,fin⟩

end Go.Proofs.YthfoloefkfadlaaGreatDoor

namespace Go.Proofs.YthfoloefkfadlaaGreatDoor
open Go Go.RowKit Go.Sort

def decB (u:Nat):ByteArray:=⟨(Lib.decDigits u).toArray⟩
def dig (u:Nat):ByteArray:=⟨#[UInt8.ofNat (48+u)]⟩

theorem byteStr (w:World) (X u:Nat) (hu:u<10) (hc:w.cell? ⟨X,0,none⟩=some (.int .u8 (48+(u:Int)))) :
 (convert 22 9 (.slice (some ⟨X,0,none⟩) 1 1)).run Tryz.prog w=.ok (.string (dig u)) w:=by
 have h:=run_convert_bytes_back (P:=Tryz.prog) w 22 9 5 ⟨X,0,none⟩ 1 [UInt8.ofNat (48+u)] Tryz.underlying22 Tryz.underlying5 Tryz.underlying9 (fun j hj=>by
  have hj0:j=0:=by simpa using hj
  subst hj0
  rw [Addr.add_lit,Nat.add_zero,hc]
  simp;omega)
 exact h

set_option maxRecDepth 100000 in
theorem l1Num_one (u:Nat) (hu:u<10) (w:World) :
 Calls Tryz.prog 81 #[.int .i64 (u:Int)] w fun e w'=>e=.returned (.string (decB u))∧Below w.heap.size w w':=by
 have hd:decB u=dig u:=by unfold decB dig;rw [Lib.decDigits_one hu]
 have hw1:IntKind.i64.wrap ((48:Int)+u)=(48+u:Int):=by rw [IntKind.wrap_i64];omega
 have hn:¬ ((u:Int)<0):=by omega
 have hn2:((u:Int)<10):=by omega
 have kc:=byteStr (w.alloc (.cells #[.int .u8 (48+(u:Int))] 5)) w.heap.size u hu (by simp)
 have HD:=Lib.hid hd
 clear hd
 go_enter Tryz.func81,Tryz.ntmps81
 go_wp2
 go_ret
 exact ⟨by rw [HD.out];rfl,qBl⟩

theorem decB_step (u:Nat) (h:¬ u<10):decB u=decB (u / 10) ++ dig (u % 10):=by
 unfold decB dig
 rw [Lib.decDigits,dif_neg h]
 apply ByteArray.ext
 simp

theorem decB_size (u:Nat) (h:u≤1000000000000000):(decB u).size≤21:=by
 have:=itoaB_size (n:=(u:Int)) (by omega) (by omega)
 simpa [itoaB,decB,Lib.itoa_nonneg] using this

set_option maxRecDepth 100000 in
set_option maxHeartbeats 800000 in
theorem l1Num_nat (u:Nat) (hu:u≤1000000000000000):∀ (w:World),
 Calls Tryz.prog 81 #[.int .i64 (u:Int)] w fun e w'=>e=.returned (.string (decB u))∧Below w.heap.size w w':=by
 induction u using Nat.strongRecOn with
 | _ u ih =>
   intro w
   by_cases h1:u<10
   · exact l1Num_one u h1 w
   obtain ⟨q,hq⟩:∃ q,q=u / 10:=⟨_,rfl⟩
   obtain ⟨r,hr⟩:∃ r,r=u % 10:=⟨_,rfl⟩
   have hd:=decB_step u h1
   have ih2:=ih (u / 10) (by omega) (by omega)
   have hz:=decB_size (u / 10) (by omega)
   have hlt:u % 10<10:=Nat.mod_lt _ (by decide)
   have e1:(u:Int).tdiv 10=((u / 10:Nat):Int):=rfl
   have e2:(u:Int).tmod 10=((u % 10:Nat):Int):=rfl
   rw [← hq] at hd ih2 hz e1
   rw [← hr] at hd hlt e2
   have hs:(dig r).size=1:=rfl
   have hw1:IntKind.i64.wrap ((48:Int)+(r:Int))=(48+(r:Int):Int):=by rw [IntKind.wrap_i64];omega
   have hw2:IntKind.i64.wrap (q:Int)=(q:Int):=by rw [IntKind.wrap_i64];omega
   have hw3:IntKind.u8.wrap ((48:Int)+(r:Int))=(48+(r:Int):Int):=by rw [IntKind.wrap_u8];omega
   have hw4:IntKind.i64.wrap (r:Int)=(r:Int):=by rw [IntKind.wrap_i64];omega
   have hn:¬ ((u:Int)<0):=by omega
   have hn2:¬ ((u:Int)<10):=by omega
   have HD:=Lib.hid hd
   have k1:=fun (w':World)=>byteStr (w'.alloc (.cells #[.int .u8 (48+(r:Int))] 5)) w'.heap.size r hlt (by simp)
   have k2:∀ w':World,(convert 22 9 (.slice (some ⟨w'.heap.size,0,none⟩) 1 1)).run Tryz.prog (w'.alloc (.cells #[.int .u8 (48+(r:Int))] 5)).drew=.ok (.string (dig r)) (w'.alloc (.cells #[.int .u8 (48+(r:Int))] 5)).drew:=fun w'=>k1 w'.drew
   clear hd ih hq hr
   go_enter Tryz.func81,Tryz.ntmps81
   go_wp2_with fail
   go_region_with (go_at_call 81;refine (ih2 _).mono ?_;rintro e w1 ⟨rfl,b1⟩;have kc:=b1.cell (p:=⟨w.heap.size,0,none⟩);simp at kc;have b2:Below w.heap.size w w1:=Below.trans (by repeat (first|exact Below.refl _ _|refine Below.drew ?_|refine Below.alloc ?_ (by simp) _)) (b1.mono (by simp));clear b1;first|have kq:=byteStr w1 w.heap.size r hlt kc|skip)
   all_goals
    go_wp2
    go_ret
    exact ⟨by rw [HD.out];rfl,by first|exact b2|exact b2.alloc b2.size _⟩

theorem l1Num_neg (u:Nat) (h1:1≤u) (hu:u≤1000000000000000) (w:World) :
 Calls Tryz.prog 81 #[.int .i64 (-(u:Int))] w fun e w'=>e=.returned (.string (itoaB (-(u:Int))))∧Below w.heap.size w w':=by
 have hd:itoaB (-(u:Int))=(⟨#[45]⟩:ByteArray) ++ decB u:=by
  unfold itoaB decB;rw [Lib.itoa_neg u h1];apply ByteArray.ext;simp
 have hz:=decB_size u hu
 have i1:=l1Num_nat u hu
 have hn:(-(u:Int)<0):=by omega
 have hne:¬ (-(u:Int)=(u:Int)):=by omega
 have hw2:IntKind.i64.wrap (u:Int)=(u:Int):=by rw [IntKind.wrap_i64];omega
 have HD:=Lib.hid hd
 clear hd
 go_enter Tryz.func81,Tryz.ntmps81
 go_wp2_with (go_at_call 81;refine (i1 _).mono ?_;rintro e w' ⟨rfl,hb⟩)
 go_ret
 exact ⟨by rw [HD.out];rfl,hb⟩

theorem l1Num_any (n:Int) (h0 : -1000000000000000≤n) (h1:n≤1000000000000000) (w:World) :
 Calls Tryz.prog 81 #[.int .i64 n] w fun e w'=>e=.returned (.string (itoaB n))∧Below w.heap.size w w':=by
 by_cases h:n<0
 · have:=l1Num_neg n.natAbs (by omega) (by omega) w
   rwa [show -((n.natAbs:Nat):Int)=n by omega] at this
 · have:=l1Num_nat n.toNat (by omega) w
   rw [show ((n.toNat:Nat):Int)=n by omega] at this
   rwa [show decB n.toNat=itoaB n by unfold decB itoaB Lib.itoa;rw [if_neg h]] at this
end Go.Proofs.YthfoloefkfadlaaGreatDoor

namespace Go.Proofs.YthfoloefkfadlaaGreatDoor
open Go Go.RowKit Go.Sort

theorem slegText_any (g:Lg) (w:World) :
 Calls Tryz.prog 131 #[g.val] w fun e w'=>e=.returned (.string (legB g))∧Below w.heap.size w w':=by
 cases hv:legOk 6 g
 · have hB:legB g=⟨#[]⟩:=by simp [legB,hv]
   obtain ⟨x1,x2,x3,x4,x5⟩:=g
   show Calls Tryz.prog 131 #[.agg #[.int .i64 x1,.int .i64 x2,.int .i64 x3,.int .i64 x4,.int .i64 x5]] w _
   have HB:=Lib.hid hB
   clear hB
   go_enter Tryz.func131,Tryz.ntmps131
   go_wp2_with (go_at_call 84;refine (slegValid_any 6 ⟨x1,x2,x3,x4,x5⟩ _).mono ?_;rintro e w' ⟨rfl,hb⟩)
   go_ret
   exact ⟨by rw [HB.out];rfl,((Below.refl _ _).alloc (Nat.le_refl _) _).trans (hb.mono (by simp))⟩
 obtain ⟨hr1,hr2,hr3,hr4,hr5⟩:=legOk_range (by omega) hv
 have hB:legB g=itoaB g.frm ++ ⟨#[62]⟩ ++ itoaB g.to ++ ⟨#[58]⟩ ++ itoaB g.east ++ ⟨#[44]⟩ ++ itoaB g.north ++ ⟨#[44]⟩ ++ itoaB g.up:=by
  simp [legB,hv,wayB,ByteArray.append_assoc]
 obtain ⟨x1,x2,x3,x4,x5⟩:=g
 simp only at hr1 hr2 hr3 hr4 hr5 hB
 show Calls Tryz.prog 131 #[.agg #[.int .i64 x1,.int .i64 x2,.int .i64 x3,.int .i64 x4,.int .i64 x5]] w _
 have HB:=Lib.hid hB
 clear hB
 have s1:=itoaB_size (n:=x1) (by omega) (by omega)
 have s2:=itoaB_size (n:=x2) (by omega) (by omega)
 have s3:=itoaB_size (n:=x3) (by omega) (by omega)
 have s4:=itoaB_size (n:=x4) (by omega) (by omega)
 have s5:=itoaB_size (n:=x5) (by omega) (by omega)
 go_enter Tryz.func131,Tryz.ntmps131
 go_wp2_with (go_at_call 84;refine (slegValid_any 6 ⟨x1,x2,x3,x4,x5⟩ _).mono ?_;rintro e W ⟨rfl,hb⟩)
 have bW:Below w.heap.size w W:=((Below.refl _ _).alloc (Nat.le_refl _) _).trans (hb.mono (by simp))
 have cc:=fun i=>hb.cell (p:=⟨w.heap.size,i,none⟩) (by simp)
 have c1:W.cell? ⟨w.heap.size,0,none⟩=some (.int .i64 x1):=by rw [cc];simp
 have c2:W.cell? ⟨w.heap.size,1,none⟩=some (.int .i64 x2):=by rw [cc];simp
 have c3:W.cell? ⟨w.heap.size,2,none⟩=some (.int .i64 x3):=by rw [cc];simp
 have c4:W.cell? ⟨w.heap.size,3,none⟩=some (.int .i64 x4):=by rw [cc];simp
 have c5:W.cell? ⟨w.heap.size,4,none⟩=some (.int .i64 x5):=by rw [cc];simp
 clear cc hb
 have k1:=cell_regrown c1
 have k2:=cell_regrown c2
 have k3:=cell_regrown c3
 have k4:=cell_regrown c4
 have k5:=cell_regrown c5
 have i1:=fun d os=>Calls.regrown_of (l1Num_any x1 (by omega) (by omega) (grow (redrawn W d) os))
 have i2:=fun d os=>Calls.regrown_of (l1Num_any x2 (by omega) (by omega) (grow (redrawn W d) os))
 have i3:=fun d os=>Calls.regrown_of (l1Num_any x3 (by omega) (by omega) (grow (redrawn W d) os))
 have i4:=fun d os=>Calls.regrown_of (l1Num_any x4 (by omega) (by omega) (grow (redrawn W d) os))
 have i5:=fun d os=>Calls.regrown_of (l1Num_any x5 (by omega) (by omega) (grow (redrawn W d) os))
 have n1:¬ 9223372036854775807<(itoaB x1).size+1:=by omega
 have n2:¬ 9223372036854775807<(itoaB x1).size+1+(itoaB x2).size:=by omega
 have n3:¬ 9223372036854775807<(itoaB x1).size+1+(itoaB x2).size+1:=by omega
 have n4:¬ 9223372036854775807<(itoaB x1).size+1+(itoaB x2).size+1+(itoaB x3).size:=by omega
 have n5:¬ 9223372036854775807<(itoaB x1).size+1+(itoaB x2).size+1+(itoaB x3).size+1:=by omega
 have n6:¬ 9223372036854775807<(itoaB x1).size+1+(itoaB x2).size+1+(itoaB x3).size+1+(itoaB x4).size:=by omega
 have n7:¬ 9223372036854775807<(itoaB x1).size+1+(itoaB x2).size+1+(itoaB x3).size+1+(itoaB x4).size+1:=by omega
 have n8:¬ 9223372036854775807<(itoaB x1).size+1+(itoaB x2).size+1+(itoaB x3).size+1+(itoaB x4).size+1+(itoaB x5).size:=by omega
 refine wp_region_quiet_below (by kernel_rfl) (by kernel_rfl) ?_
 repeat (quiet_step (first|with_reducible exact i1 _ _|with_reducible exact i2 _ _|with_reducible exact i3 _ _|with_reducible exact i4 _ _|with_reducible exact i5 _ _))
 refine wpQuiet_nil ?_
 intro _ hw'
 obtain ⟨⟨dq,osq⟩,hw''⟩:=hw'
 have fin:Below w.heap.size w (grow (redrawn W dq) osq):=bW.trans ((below_regrown W dq osq).mono bW.size)
 subst hw''
 generalize grow (redrawn W dq) osq=W2 at fin ⊢
 go_wp2
 go_ret
 exact ⟨by rw [HB.out];rfl,fin⟩

def nameB (k:Int):ByteArray:=if k=0 then ⟨#[112,117,116]⟩ else if k=1 then ⟨#[100,114,111,112]⟩ else if k=2 then ⟨#[116,117,114,110]⟩ else if k=3 then ⟨#[115,101,116]⟩ else if k=4 then ⟨#[109,111,114,101]⟩ else ⟨#[108,101,115,115]⟩

theorem deedWord_any (k:Int) (h:0≤k∧k≤5) (w:World):Calls Tryz.prog 96 #[.int .i64 k] w fun e w'=>e=.returned (.string (nameB k))∧w=w':=by
 have hk:k=0∨k=1∨k=2∨k=3∨k=4∨k=5:=by omega
 clear h
 rcases hk with rfl|rfl|rfl|rfl|rfl|rfl
 all_goals
  go_enter Tryz.func96,Tryz.ntmps96
  go_wp2
  go_ret
  exact ⟨rfl,rfl⟩

set_option maxRecDepth 100000 in
theorem l7Name_any (k:Int) (h:0≤k∧k≤5) (w:World):Calls Tryz.prog 105 #[.int .i64 k] w fun e w'=>e=.returned (.string (nameB k))∧Below w.heap.size w w':=by
 have hk:k=0∨k=1∨k=2∨k=3∨k=4∨k=5:=by omega
 clear h
 rcases hk with rfl|rfl|rfl|rfl|rfl|rfl
 all_goals
  go_enter Tryz.func105,Tryz.ntmps105
  go_wp2
  go_ret
  exact ⟨rfl,qBl⟩
end Go.Proofs.YthfoloefkfadlaaGreatDoor

namespace Go.Proofs.YthfoloefkfadlaaGreatDoor
open Go Go.RowKit Go.Sort

def deedB (d:Dd):ByteArray :=
 if ddIn d then (if d.kind=0∨d.kind=3 then nameB d.kind ++ (⟨#[32]⟩ ++ itoaB d.index) ++ (⟨#[32]⟩ ++ legB d.leg) else if d.kind<4 then nameB d.kind ++ (⟨#[32]⟩ ++ itoaB d.index) else nameB d.kind) else ⟨#[]⟩

theorem nameB_size (k:Int):(nameB k).size≤4:=by
 unfold nameB
 repeat' (first|split|decide)
theorem legB_size {g:Lg} (h:legOk 6 g=true):1≤(legB g).size∧(legB g).size≤200:=by
 obtain ⟨hr1,hr2,hr3,hr4,hr5⟩:=legOk_range (by omega) h
 have s1:=itoaB_size (n:=g.frm) (by omega) (by omega)
 have s2:=itoaB_size (n:=g.to) (by omega) (by omega)
 have s3:=itoaB_size (n:=g.east) (by omega) (by omega)
 have s4:=itoaB_size (n:=g.north) (by omega) (by omega)
 have s5:=itoaB_size (n:=g.up) (by omega) (by omega)
 unfold legB wayB
 rw [if_pos h]
 simp only [ByteArray.size_append]
 have a1:(⟨#[62]⟩:ByteArray).size=1:=rfl
 have a2:(⟨#[58]⟩:ByteArray).size=1:=rfl
 have a3:(⟨#[44]⟩:ByteArray).size=1:=rfl
 rw [a1,a2,a3]
 omega
theorem legB_ne {g:Lg} (h:legOk 6 g=true):legB g≠⟨#[]⟩:=fun e=>by
 have:=(legB_size h).1
 rw [e] at this
 exact absurd this (by decide)

theorem ddIn_fits {d:Dd} (h:ddIn d=true):ddFits d=true:=by
 unfold ddIn at h;unfold ddFits
 simp only [Bool.and_eq_true,Bool.or_eq_true,Bool.not_eq_true',decide_eq_true_eq,inB] at h
 obtain ⟨⟨⟨⟨h1,h2⟩,h3⟩,h4⟩,h5⟩:=h
 by_cases a:d.kind=0∨d.kind=3
 · rw [if_pos a]
 rw [if_neg a] at h5 ⊢
 by_cases b:d.kind=1∨d.kind=2
 · rw [if_pos b];exact h5
 rw [if_neg b,if_pos (by omega)]
 rcases h4 with h4|h4
 · simp at h4;omega
 · simp [h4] at h5 ⊢;exact h5

set_option maxHeartbeats 2000000 in
theorem deedText_any (d:Dd) (w:World) (hp:Pow w) :
 Calls Tryz.prog 52 #[d.val] w fun e w'=>e=.returned (.string (deedB d))∧Below w.heap.size w w':=by
 cases hf:ddFits d
 · have hB:deedB d=⟨#[]⟩:=by unfold deedB;rw [if_neg];intro h;rw [ddIn_fits h] at hf;cases hf
   have i1:=deedFits_any d
   rw [hf] at i1
   obtain ⟨kd,ix,⟨x1,x2,x3,x4,x5⟩⟩:=d
   simp only [Dd.val] at i1
   show Calls Tryz.prog 52 #[.agg #[.int .i64 kd,.int .i64 ix,.int .i64 x1,.int .i64 x2,.int .i64 x3,.int .i64 x4,.int .i64 x5]] w _
   have HB:=Lib.hid hB
   clear hB hf
   go_enter Tryz.func52,Tryz.ntmps52
   go_wp2_with (go_at_call 97;refine (i1 _).mono ?_;rintro e w1 ⟨rfl,b1⟩)
   go_ret
   exact ⟨by rw [HB.out];first|done|rfl,(by repeat (first|with_reducible assumption|with_reducible exact Below.refl _ _|refine Below.setCell ?_ qSo _|refine Below.alloc ?_ qSo _|with_reducible exact Below.trans (Below.refl _ _) b1|refine Below.trans ?_ (Below.mono b1 qSo)|refine below_drewN ?_ _|refine Below.drew ?_))⟩
 have i1:=deedFits_any d
 rw [hf] at i1
 have hk:d.kind=0∨d.kind=1∨d.kind=2∨d.kind=3∨d.kind=4∨d.kind=5:=by
  unfold ddFits at hf
  by_cases a:d.kind=0∨d.kind=3
  · omega
  rw [if_neg a] at hf
  by_cases b:d.kind=1∨d.kind=2
  · omega
  rw [if_neg b] at hf
  by_cases c:d.kind=4∨d.kind=5
  · omega
  rw [if_neg c] at hf;cases hf
 have i2:=deedWord_any d.kind (by omega)
 have z1:=nameB_size d.kind
 by_cases h4:4≤d.kind
 · have hB:deedB d=nameB d.kind:=by
    unfold deedB
    rw [if_pos,if_neg (by omega),if_neg (by omega)]
    unfold ddFits at hf;unfold ddIn
    rw [if_neg (by omega),if_neg (by omega),if_pos (by omega)] at hf
    rw [if_neg (by omega)]
    simp at hf
    simp [hf.1,hf.2,inB];omega
   obtain ⟨kd,ix,⟨x1,x2,x3,x4,x5⟩⟩:=d
   simp only [Dd.val] at i1 i2 z1 h4 hk
   show Calls Tryz.prog 52 #[.agg #[.int .i64 kd,.int .i64 ix,.int .i64 x1,.int .i64 x2,.int .i64 x3,.int .i64 x4,.int .i64 x5]] w _
   have HB:=Lib.hid hB
   have hk':kd=4∨kd=5:=by omega
   clear hB hf hk h4
   rcases hk' with rfl|rfl
   all_goals
    go_enter Tryz.func52,Tryz.ntmps52
    go_wp2_with (first|(go_at_call 97;refine (i1 _).mono ?_;rintro e w1 ⟨rfl,b1⟩;obtain ⟨hc,_hf⟩:=bcell b1)|(go_at_call 96;refine (i2 _).mono ?_;rintro e w' ⟨rfl,rfl⟩))
    go_ret
    exact ⟨by rw [HB.out];first|done|rfl,(by repeat (first|with_reducible assumption|with_reducible exact Below.refl _ _|refine Below.setCell ?_ qSo _|refine Below.alloc ?_ qSo _|with_reducible exact Below.trans (Below.refl _ _) b1|refine Below.trans ?_ (Below.mono b1 qSo)|refine below_drewN ?_ _|refine Below.drew ?_))⟩
 cases hi:isIdx d.index 10
 · have hB:deedB d=⟨#[]⟩:=by
    unfold deedB;rw [if_neg];intro h
    unfold ddIn at h
    simp only [Bool.and_eq_true,inB,decide_eq_true_eq] at h
    simp [isIdx] at hi
    omega
   obtain ⟨kd,ix,⟨x1,x2,x3,x4,x5⟩⟩:=d
   simp only [Dd.val] at i1 i2 z1 h4 hk hi
   show Calls Tryz.prog 52 #[.agg #[.int .i64 kd,.int .i64 ix,.int .i64 x1,.int .i64 x2,.int .i64 x3,.int .i64 x4,.int .i64 x5]] w _
   have HB:=Lib.hid hB
   have n4:kd<4:=by omega
   clear hB hf hk h4
   go_enter Tryz.func52,Tryz.ntmps52
   go_wp2_with (first|(go_at_call 97;refine (i1 _).mono ?_;rintro e w1 ⟨rfl,b1⟩;obtain ⟨hc,_hf⟩:=bcell b1)|(go_at_call 96;refine (i2 _).mono ?_;rintro e w' ⟨rfl,rfl⟩)|(go_at_call 98;refine (isIndex_any _ _ _).mono ?_;rintro e w' ⟨rfl,rfl⟩))
   go_ret
   exact ⟨by rw [HB.out];first|done|rfl,(by repeat (first|with_reducible assumption|with_reducible exact Below.refl _ _|refine Below.setCell ?_ qSo _|refine Below.alloc ?_ qSo _|with_reducible exact Below.trans (Below.refl _ _) b1|refine Below.trans ?_ (Below.mono b1 qSo)|refine below_drewN ?_ _|refine Below.drew ?_))⟩
 have hix:0≤d.index∧d.index<10:=by simpa [isIdx] using hi
 have i3:=itoa_any d.index (by omega) (by omega)
 have z2:=itoaB_size (n:=d.index) (by omega) (by omega)
 have i4:=legText_any d.leg
 by_cases h03:d.kind=0∨d.kind=3
 · cases hl:legOk 6 d.leg
   · have hB:deedB d=⟨#[]⟩:=by
      unfold deedB;rw [if_neg];intro h
      unfold ddIn at h
      rw [if_pos h03,hl] at h
      simp at h
     have hL:legB d.leg=⟨#[]⟩:=by simp [legB,hl]
     rw [hL] at i4
     obtain ⟨kd,ix,⟨x1,x2,x3,x4,x5⟩⟩:=d
     simp only [Dd.val,Lg.val] at i1 i2 i3 i4 z1 z2 h4 hk hi h03
     show Calls Tryz.prog 52 #[.agg #[.int .i64 kd,.int .i64 ix,.int .i64 x1,.int .i64 x2,.int .i64 x3,.int .i64 x4,.int .i64 x5]] w _
     have HB:=Lib.hid hB
     clear hB hf hk h4 hix hl hL
     rcases h03 with rfl|rfl
     all_goals
      go_enter Tryz.func52,Tryz.ntmps52
      go_wp2_with (first|(go_at_call 97;refine (i1 _).mono ?_;rintro e w1 ⟨rfl,b1⟩;have q1:Below w.heap.size w w1:=((Below.refl _ _).alloc (Nat.le_refl _) _).trans (b1.mono (by simp));obtain ⟨hc1,_hf1⟩:=bcell b1)|(go_at_call 96;refine (i2 _).mono ?_;rintro e w' ⟨rfl,rfl⟩)|(go_at_call 98;refine (isIndex_any _ _ _).mono ?_;rintro e w' ⟨rfl,rfl⟩)|(go_at_call 88;refine (i3 _ (hp.below q1)).mono ?_;rintro e w2 ⟨rfl,b2⟩;have q2:=q1.trans (b2.mono q1.size);obtain ⟨hc2,_hf2⟩:=bcell (b1.trans (b2.mono b1.size)))|(go_at_call 45;refine (i4 _ (hp.below q2)).mono ?_;rintro e w3 ⟨rfl,b3⟩;have q3:=q2.trans (b3.mono q2.size)))
      go_ret
      exact ⟨by rw [HB.out];first|done|rfl,q3⟩
   have hB:deedB d=nameB d.kind ++ (⟨#[32]⟩ ++ itoaB d.index) ++ (⟨#[32]⟩ ++ legB d.leg):=by
    unfold deedB
    rw [if_pos,if_pos h03]
    unfold ddIn
    rw [if_pos h03,hl]
    simp [inB];omega
   have hne:=legB_ne hl
   have z3:=(legB_size hl).2
   have hne2:(legB d.leg).toList.isEmpty=false:=by
    rw [Lib.toList_data]
    cases h:(legB d.leg).data.toList with
    | nil=>exact absurd (ByteArray.ext (Array.ext' (by simpa using h))) hne
    | cons _ _=>rfl
   obtain ⟨kd,ix,g⟩:=d
   obtain ⟨L,hL⟩:∃ L,L=legB g:=⟨_,rfl⟩
   rw [← hL] at i4 hB hne hne2 z3
   obtain ⟨x1,x2,x3,x4,x5⟩:=g
   simp only [Dd.val,Lg.val] at i1 i2 i3 i4 z1 z2 h4 hk hi h03 hB
   show Calls Tryz.prog 52 #[.agg #[.int .i64 kd,.int .i64 ix,.int .i64 x1,.int .i64 x2,.int .i64 x3,.int .i64 x4,.int .i64 x5]] w _
   have HB:=Lib.hid hB
   clear hB hf hk h4 hix hl hL
   rcases h03 with rfl|rfl
   all_goals
    go_enter Tryz.func52,Tryz.ntmps52
    go_wp2_with (first|(go_at_call 97;refine (i1 _).mono ?_;rintro e w1 ⟨rfl,b1⟩;have q1:Below w.heap.size w w1:=((Below.refl _ _).alloc (Nat.le_refl _) _).trans (b1.mono (by simp));obtain ⟨hc1,_hf1⟩:=bcell b1)|(go_at_call 96;refine (i2 _).mono ?_;rintro e w' ⟨rfl,rfl⟩)|(go_at_call 98;refine (isIndex_any _ _ _).mono ?_;rintro e w' ⟨rfl,rfl⟩)|(go_at_call 88;refine (i3 _ (hp.below q1)).mono ?_;rintro e w2 ⟨rfl,b2⟩;have q2:=q1.trans (b2.mono q1.size);obtain ⟨hc2,_hf2⟩:=bcell (b1.trans (b2.mono b1.size)))|(go_at_call 45;refine (i4 _ (hp.below q2)).mono ?_;rintro e w3 ⟨rfl,b3⟩;have q3:=q2.trans (b3.mono q2.size)))
    go_ret
    exact ⟨by rw [HB.out];first|done|rfl,q3⟩
 have hB:deedB d=if ddIn d then nameB d.kind ++ (⟨#[32]⟩ ++ itoaB d.index) else ⟨#[]⟩:=by
  unfold deedB
  rw [if_neg h03,if_pos (show d.kind<4 by omega)]
 have hin:ddIn d=true:=by
  unfold ddIn;unfold ddFits at hf
  rw [if_neg h03,if_pos (by omega)] at hf
  rw [if_neg h03,hf]
  simp [inB];omega
 rw [if_pos hin] at hB
 obtain ⟨kd,ix,⟨x1,x2,x3,x4,x5⟩⟩:=d
 simp only [Dd.val,Lg.val] at i1 i2 i3 i4 z1 z2 h4 hk hi h03 hB
 show Calls Tryz.prog 52 #[.agg #[.int .i64 kd,.int .i64 ix,.int .i64 x1,.int .i64 x2,.int .i64 x3,.int .i64 x4,.int .i64 x5]] w _
 have HB:=Lib.hid hB
 have hk':kd=1∨kd=2:=by omega
 clear hB hf hk h4 hix hin h03 i4
 rcases hk' with rfl|rfl
 all_goals
  go_enter Tryz.func52,Tryz.ntmps52
  go_wp2_with (first|(go_at_call 97;refine (i1 _).mono ?_;rintro e w1 ⟨rfl,b1⟩;have q1:Below w.heap.size w w1:=((Below.refl _ _).alloc (Nat.le_refl _) _).trans (b1.mono (by simp));obtain ⟨hc1,_hf1⟩:=bcell b1)|(go_at_call 96;refine (i2 _).mono ?_;rintro e w' ⟨rfl,rfl⟩)|(go_at_call 98;refine (isIndex_any _ _ _).mono ?_;rintro e w' ⟨rfl,rfl⟩)|(go_at_call 88;refine (i3 _ (hp.below q1)).mono ?_;rintro e w2 ⟨rfl,b2⟩;have q2:=q1.trans (b2.mono q1.size);obtain ⟨hc2,_hf2⟩:=bcell (b1.trans (b2.mono b1.size))))
  go_ret
  exact ⟨by rw [HB.out];first|done|rfl,q2⟩
end Go.Proofs.YthfoloefkfadlaaGreatDoor

namespace Go.Proofs.YthfoloefkfadlaaGreatDoor
open Go Go.RowKit Go.Sort

set_option maxHeartbeats 1000000 in
theorem sdeedText_any (d:Dd) (w:World) :
 Calls Tryz.prog 82 #[d.val] w fun e w'=>e=.returned (.string (deedB d))∧Below w.heap.size w w':=by
 have i1:=l7Deed_any d
 cases hf:ddIn d
 · have hB:deedB d=⟨#[]⟩:=by unfold deedB;rw [if_neg];rw [hf];decide
   rw [hf] at i1
   obtain ⟨kd,ix,⟨x1,x2,x3,x4,x5⟩⟩:=d
   simp only [Dd.val] at i1
   show Calls Tryz.prog 82 #[.agg #[.int .i64 kd,.int .i64 ix,.int .i64 x1,.int .i64 x2,.int .i64 x3,.int .i64 x4,.int .i64 x5]] w _
   have HB:=Lib.hid hB
   clear hB hf
   go_enter Tryz.func82,Tryz.ntmps82
   go_wp2_with (go_at_call 130;refine (i1 _).mono ?_;rintro e w1 ⟨rfl,b1⟩)
   go_ret
   exact ⟨by rw [HB.out];first|done|rfl,(by repeat (first|with_reducible assumption|with_reducible exact Below.refl _ _|refine Below.setCell ?_ qSo _|refine Below.alloc ?_ qSo _|with_reducible exact Below.trans (Below.refl _ _) b1|refine Below.trans ?_ (Below.mono b1 qSo)|refine below_drewN ?_ _|refine Below.drew ?_))⟩
 rw [hf] at i1
 have hf':=hf
 unfold ddIn at hf'
 simp only [Bool.and_eq_true,inB,decide_eq_true_eq] at hf'
 have hk:(0≤d.kind∧d.kind≤5)∧(0≤d.index∧d.index≤9):=by omega
 have hl:(d.kind=0∨d.kind=3)→legOk 6 d.leg=true:=fun h=>by have:=hf'.2;rwa [if_pos h] at this
 obtain ⟨hk1,hk2⟩:=hk
 have i2:=l7Name_any d.kind hk1
 have i3:=l1Num_any d.index (by omega) (by omega)
 have i4:=slegText_any d.leg
 have z1:=nameB_size d.kind
 have z2:=itoaB_size (n:=d.index) (by omega) (by omega)
 by_cases h4:4≤d.kind
 · have hB:deedB d=nameB d.kind:=by
    unfold deedB;rw [if_pos hf,if_neg (by omega),if_neg (by omega)]
   obtain ⟨kd,ix,⟨x1,x2,x3,x4,x5⟩⟩:=d
   simp only [Dd.val] at i1 i2 z1 h4 hk1
   show Calls Tryz.prog 82 #[.agg #[.int .i64 kd,.int .i64 ix,.int .i64 x1,.int .i64 x2,.int .i64 x3,.int .i64 x4,.int .i64 x5]] w _
   have HB:=Lib.hid hB
   have hk':kd=4∨kd=5:=by omega
   clear hB hf hf' h4 hk1 hl
   rcases hk' with rfl|rfl
   all_goals
    go_enter Tryz.func82,Tryz.ntmps82
    go_wp2_with (first|(go_at_call 130;refine (i1 _).mono ?_;rintro e w1 ⟨rfl,b1⟩;have q1:Below w.heap.size w w1:=((Below.refl _ _).alloc (Nat.le_refl _) _).trans (b1.mono (by simp));obtain ⟨hc1,_hf1⟩:=bcell b1)|(go_at_call 105;refine (i2 _).mono ?_;rintro e w2 ⟨rfl,b2⟩;have q2:=q1.trans (b2.mono q1.size);obtain ⟨hc2,_hf2⟩:=bcell (b1.trans (b2.mono b1.size))))
    go_ret
    exact ⟨by rw [HB.out];first|done|rfl,q2⟩
 by_cases h03:d.kind=0∨d.kind=3
 · have hB:deedB d=nameB d.kind ++ ⟨#[32]⟩ ++ itoaB d.index ++ ⟨#[32]⟩ ++ legB d.leg:=by
    unfold deedB;rw [if_pos hf,if_pos h03];simp only [ByteArray.append_assoc]
   have z3:=(legB_size (hl h03)).2
   obtain ⟨kd,ix,g⟩:=d
   obtain ⟨L,hL⟩:∃ L,L=legB g:=⟨_,rfl⟩
   simp only at hB i4 z3
   rw [← hL] at i4 hB z3
   obtain ⟨x1,x2,x3,x4,x5⟩:=g
   simp only [Dd.val,Lg.val] at i1 i2 i3 i4 z1 z2 h03 hB
   show Calls Tryz.prog 82 #[.agg #[.int .i64 kd,.int .i64 ix,.int .i64 x1,.int .i64 x2,.int .i64 x3,.int .i64 x4,.int .i64 x5]] w _
   have HB:=Lib.hid hB
   clear hB hf hf' h4 hk1 hk2 hl hL
   rcases h03 with rfl|rfl
   all_goals
    go_enter Tryz.func82,Tryz.ntmps82
    go_wp2_with (first|(go_at_call 130;refine (i1 _).mono ?_;rintro e w1 ⟨rfl,b1⟩;have q1:Below w.heap.size w w1:=((Below.refl _ _).alloc (Nat.le_refl _) _).trans (b1.mono (by simp));obtain ⟨hc1,_hf1⟩:=bcell b1)|(go_at_call 105;refine (i2 _).mono ?_;rintro e w2 ⟨rfl,b2⟩;have q2:=q1.trans (b2.mono q1.size);have r2:=b1.trans (b2.mono b1.size);obtain ⟨hc2,_hf2⟩:=bcell r2)|(go_at_call 81;refine (i3 _).mono ?_;rintro e w3 ⟨rfl,b3⟩;have q3:=q2.trans (b3.mono q2.size);have r3:=r2.trans (b3.mono r2.size);obtain ⟨hc3,_hf3⟩:=bcell r3)|(go_at_call 131;refine (i4 _).mono ?_;rintro e w4 ⟨rfl,b4⟩;have q4:=q3.trans (b4.mono q3.size)))
    go_ret
    exact ⟨by rw [HB.out];first|done|rfl,q4⟩
 have hB:deedB d=nameB d.kind ++ ⟨#[32]⟩ ++ itoaB d.index:=by
  unfold deedB;rw [if_pos hf,if_neg h03,if_pos (by omega)];simp only [ByteArray.append_assoc]
 obtain ⟨kd,ix,⟨x1,x2,x3,x4,x5⟩⟩:=d
 simp only [Dd.val] at i1 i2 i3 z1 z2 h03 hB h4 hk1
 show Calls Tryz.prog 82 #[.agg #[.int .i64 kd,.int .i64 ix,.int .i64 x1,.int .i64 x2,.int .i64 x3,.int .i64 x4,.int .i64 x5]] w _
 have HB:=Lib.hid hB
 have hk':kd=1∨kd=2:=by omega
 clear hB hf hf' h4 hk1 hk2 hl h03 i4
 rcases hk' with rfl|rfl
 all_goals
  go_enter Tryz.func82,Tryz.ntmps82
  go_wp2_with (first|(go_at_call 130;refine (i1 _).mono ?_;rintro e w1 ⟨rfl,b1⟩;have q1:Below w.heap.size w w1:=((Below.refl _ _).alloc (Nat.le_refl _) _).trans (b1.mono (by simp));obtain ⟨hc1,_hf1⟩:=bcell b1)|(go_at_call 105;refine (i2 _).mono ?_;rintro e w2 ⟨rfl,b2⟩;have q2:=q1.trans (b2.mono q1.size);have r2:=b1.trans (b2.mono b1.size);obtain ⟨hc2,_hf2⟩:=bcell r2)|(go_at_call 81;refine (i3 _).mono ?_;rintro e w3 ⟨rfl,b3⟩;have q3:=q2.trans (b3.mono q2.size);have r3:=r2.trans (b3.mono r2.size);obtain ⟨hc3,_hf3⟩:=bcell r3))
  go_ret
  exact ⟨by rw [HB.out];first|done|rfl,q3⟩

end Go.Proofs.YthfoloefkfadlaaGreatDoor

namespace Go.Proofs.YthfoloefkfadlaaGreatDoor
open Go Go.RowKit Go.Sort

def legsB (t:ByteArray):List Lg→ByteArray
 | []=>t
 | g :: l=>legsB (t ++ (⟨#[59]⟩ ++ legB g)) l
def surveyB (s:Sv):ByteArray:=if svOk s then legsB (itoaB s.st) s.legs else ⟨#[]⟩
theorem legsB_drop (t:ByteArray) {l:List Lg} {k:Nat} (h:k<l.length):legsB t (l.drop k)=legsB (t ++ (⟨#[59]⟩ ++ legB (nth l k))) (l.drop (k+1)):=by
 rw [drop_nth h];rfl
theorem legB_le (g:Lg):(legB g).size≤200:=by
 cases h:legOk 6 g
 · simp [legB,h,ByteArray.size]
 · exact (legB_size h).2

theorem surveyText_any (a:Option Addr) (c:Nat) (n:Int) (l:List Lg) (w:World) (hl:l.length≤1048576) (hs:Legs w a l) (hp:Pow w) :
 Calls Tryz.prog 51 #[.agg #[.int .i64 n,.slice a l.length c]] w fun e w'=>e=.returned (.string (surveyB ⟨n,l⟩))∧Below w.heap.size w w':=by
 have i1:=fun w h=>surveyValid_any a c n l w hl h
 cases hv:svOk ⟨n,l⟩
 · have HB:=Lib.hid (show surveyB ⟨n,l⟩=⟨#[]⟩ by simp [surveyB,hv])
   rw [hv] at i1
   go_enter Tryz.func51,Tryz.ntmps51
   go_wp2_with (go_at_call 74;refine (i1 _ (hs.below qBl)).mono ?_;rintro e w1 ⟨rfl,b1⟩)
   go_ret
   exact ⟨by rw [HB.out];first|done|rfl,((Below.refl _ _).alloc (Nat.le_refl _) _).trans (b1.mono (by simp))⟩
 have HB:=Lib.hid (show surveyB ⟨n,l⟩=legsB (itoaB n) l by simp [surveyB,hv])
 have hr:(1≤n∧n≤6)∧l.length≤9:=by
  simp [svOk] at hv;omega
 obtain ⟨hn,hl9⟩:=hr
 rw [hv] at i1
 have z1:=itoaB_size (n:=n) (by omega) (by omega)
 go_enter Tryz.func51,Tryz.ntmps51
 go_wp2_with fail
 refine (i1 _ (hs.below qBl)).mono ?_
 rintro e w1 ⟨rfl,b1⟩
 have q1:Below w.heap.size w w1:=((Below.refl _ _).alloc (Nat.le_refl _) _).trans (b1.mono (by simp))
 obtain ⟨hc1,_hf1⟩:=bcell b1
 go_wp2_with fail
 refine (itoa_any n (by omega) (by omega) _ (hp.below q1)).mono ?_
 rintro e w2 ⟨rfl,b2⟩
 have r2:=b1.trans (b2.mono b1.size)
 obtain ⟨hc2,_hf2⟩:=bcell r2
 clear i1 hv hc1 _hf1
 go_wp2_with fail
 clear hc2 _hf2
 go_loopw [3,15] (fun t i wr=>∃ (k:Nat) (u:ByteArray),k≤l.length∧t=.string u∧i=.int .i64 k∧Hid (legsB (itoaB n) l=legsB u (l.drop k))∧u.size≤21+201*k∧Below (w.heap.size+1) (w.alloc (.cells #[.int .i64 n,.slice a l.length c] 25)) wr) (fun _ i _=>l.length - (intOf i).toNat)
 case atStart=>exact ⟨0,itoaB n,by omega,rfl,rfl,rfl,by omega,by simpa using r2⟩
 case round =>
  obtain ⟨k,u,hk,rfl,rfl,HR,hu,hb⟩:=hrel
  have hz:w.heap.size<wr.heap.size:=by have:=hb.size;simp at this;omega
  have hbw:Below w.heap.size w wr:=((Below.refl w.heap.size w).alloc (Nat.le_refl _) _).trans (hb.mono (by omega))
  by_cases hlt:k<l.length
  · obtain ⟨b,off,rfl,hbz,e1,e2,e3,e4,e5⟩:=Legs.at (hs.below hbw) hlt
    clear hs
    have HD:=Lib.hid (legsB_drop u hlt)
    have i2:=legText_any (nth l k)
    have z2:=legB_le (nth l k)
    obtain ⟨L,hL⟩:∃ L,L=legB (nth l k):=⟨_,rfl⟩
    rw [← hL] at i2 HD z2
    simp only [Lg.val] at i2
    clear hL
    go_wp2_with (go_at_call 45;refine (i2 _ (hp.below (hbw.alloc (by omega) _))).mono ?_;rintro e w3 ⟨rfl,b3⟩)
    go_roundw
    case rel=>exact ⟨k+1,_,by omega,rfl,by go_num,by show _=_;rw [HR.out,HD.out],by simp only [ByteArray.size_append];have:(⟨#[59]⟩:ByteArray).size=1:=rfl;omega,(hb.alloc (by omega) _).trans (b3.mono (by simp;omega))⟩
    case measure=>simp [intOf];omega
  · go_wp2
    go_ret
    exact ⟨by rw [HB.out,HR.out,List.drop_eq_nil_of_le (by omega)];rfl,hbw⟩

theorem ssurveyText_any (a:Option Addr) (c:Nat) (n:Int) (l:List Lg) (w:World) (hl:l.length≤1048576) (hs:Legs w a l) :
 Calls Tryz.prog 109 #[.agg #[.int .i64 n,.slice a l.length c]] w fun e w'=>e=.returned (.string (surveyB ⟨n,l⟩))∧Below w.heap.size w w':=by
 have i1:=fun w h=>ssurveyValid_any a c n l w hl h
 cases hv:svOk ⟨n,l⟩
 · have HB:=Lib.hid (show surveyB ⟨n,l⟩=⟨#[]⟩ by simp [surveyB,hv])
   rw [hv] at i1
   go_enter Tryz.func109,Tryz.ntmps109
   go_wp2_with (go_at_call 42;refine (i1 _ (hs.below qBl)).mono ?_;rintro e w1 ⟨rfl,b1⟩)
   go_ret
   exact ⟨by rw [HB.out];first|done|rfl,((Below.refl _ _).alloc (Nat.le_refl _) _).trans (b1.mono (by simp))⟩
 have HB:=Lib.hid (show surveyB ⟨n,l⟩=legsB (itoaB n) l by simp [surveyB,hv])
 have hr:(1≤n∧n≤6)∧l.length≤9:=by
  simp [svOk] at hv;omega
 obtain ⟨hn,hl9⟩:=hr
 rw [hv] at i1
 have z1:=itoaB_size (n:=n) (by omega) (by omega)
 go_enter Tryz.func109,Tryz.ntmps109
 go_wp2_with fail
 refine (i1 _ (hs.below qBl)).mono ?_
 rintro e w1 ⟨rfl,b1⟩
 obtain ⟨hc1,_hf1⟩:=bcell b1
 go_wp2_with fail
 refine (l1Num_any n (by omega) (by omega) _).mono ?_
 rintro e w2 ⟨rfl,b2⟩
 have r2:=b1.trans (b2.mono b1.size)
 clear i1 hv hc1 _hf1
 go_wp2_with fail
 go_loopw [3,4] (fun t i wr=>∃ (k:Nat) (u:ByteArray),k≤l.length∧t=.string u∧i=.int .i64 k∧Hid (legsB (itoaB n) l=legsB u (l.drop k))∧u.size≤21+201*k∧Below (w.heap.size+1) (w.alloc (.cells #[.int .i64 n,.slice a l.length c] 25)) wr) (fun _ i _=>l.length - (intOf i).toNat)
 case atStart=>exact ⟨0,itoaB n,by omega,rfl,rfl,rfl,by omega,by simpa using r2⟩
 case round =>
  obtain ⟨k,u,hk,rfl,rfl,HR,hu,hb⟩:=hrel
  have hz:w.heap.size<wr.heap.size:=by have:=hb.size;simp at this;omega
  have hbw:Below w.heap.size w wr:=((Below.refl w.heap.size w).alloc (Nat.le_refl _) _).trans (hb.mono (by omega))
  have c1:wr.cell? ⟨w.heap.size,1,none⟩=some (.slice a l.length c):=by rw [hb.cell (p:=⟨w.heap.size,1,none⟩) (by simp)];simp
  by_cases hlt:k<l.length
  · obtain ⟨b,off,rfl,hbz,e1,e2,e3,e4,e5⟩:=Legs.at (hs.below hbw) hlt
    clear hs
    have HD:=Lib.hid (legsB_drop u hlt)
    have i2:=slegText_any (nth l k)
    have z2:=legB_le (nth l k)
    obtain ⟨L,hL⟩:∃ L,L=legB (nth l k):=⟨_,rfl⟩
    rw [← hL] at i2 HD z2
    simp only [Lg.val] at i2
    clear hL
    go_wp2_with (go_at_call 131;refine (i2 _).mono ?_;rintro e w3 ⟨rfl,b3⟩)
    go_roundw
    case rel=>exact ⟨k+1,_,by omega,rfl,by go_num,by show _=_;rw [HR.out,HD.out,← ByteArray.append_assoc],by simp only [ByteArray.size_append];have:(⟨#[59]⟩:ByteArray).size=1:=rfl;omega,hb.trans (b3.mono (by omega))⟩
    case measure=>simp [intOf];omega
  · go_wp2
    go_ret
    exact ⟨by rw [HB.out,HR.out,List.drop_eq_nil_of_le (by omega)];rfl,hbw⟩
end Go.Proofs.YthfoloefkfadlaaGreatDoor

namespace Go.Proofs.YthfoloefkfadlaaGreatDoor
open Go Go.RowKit Go.Sort

theorem deedB_le (d:Dd):(deedB d).size≤300:=by
 have h1:=nameB_size d.kind
 have h3:=legB_le d.leg
 have h4:(⟨#[32]⟩:ByteArray).size=1:=rfl
 unfold deedB
 by_cases h:ddIn d=true
 · have h2:=itoaB_size (n:=d.index) (by
    unfold ddIn at h;simp only [Bool.and_eq_true,inB,decide_eq_true_eq] at h;omega) (by
    unfold ddIn at h;simp only [Bool.and_eq_true,inB,decide_eq_true_eq] at h;omega)
   rw [if_pos h]
   split
   · simp only [ByteArray.size_append];omega
   · split
     · simp only [ByteArray.size_append];omega
     · omega
 · rw [if_neg h];decide

end Go.Proofs.YthfoloefkfadlaaGreatDoor

namespace Go.Proofs.YthfoloefkfadlaaGreatDoor
open Go Go.RowKit Go.Sort

theorem take_eq_step {α:Type} [Inhabited α] {xs ys:List α} {k:Nat} (h1:k<xs.length) (h2:k<ys.length) (h:xs.take k=ys.take k) (hx:nth xs k=nth ys k):xs.take (k+1)=ys.take (k+1):=by
 rw [take_nth h1,take_nth h2,h,hx]
theorem sv_eq (s t:Int) (l m:List Lg):((⟨s,l⟩:Sv)=⟨t,m⟩)=(s=t∧l=m):=by simp
theorem dec_no {p:Prop} [Decidable p] (h:¬ p):decide p=false:=decide_eq_false h
theorem dec_yes {p:Prop} [Decidable p] (h:p):decide p=true:=decide_eq_true h

def ddEq (k1 i1 x1 x2 x3 x4 x5 k2 i2 y1 y2 y3 y4 y5:Int):Bool:=decide (k1=k2) && (decide (i1=i2) && legEq x1 x2 x3 x4 x5 y1 y2 y3 y4 y5)
theorem run_ddNe (k1 i1 x1 x2 x3 x4 x5 k2 i2 y1 y2 y3 y4 y5:Int) (w:World):(binOp .neq 82 (.agg #[.int .i64 k1,.int .i64 i1,.int .i64 x1,.int .i64 x2,.int .i64 x3,.int .i64 x4,.int .i64 x5]) (.agg #[.int .i64 k2,.int .i64 i2,.int .i64 y1,.int .i64 y2,.int .i64 y3,.int .i64 y4,.int .i64 y5])).run Tryz.prog w=.ok (.bool (!ddEq k1 i1 x1 x2 x3 x4 x5 k2 i2 y1 y2 y3 y4 y5)) w:=by
 by_cases h1:k1=k2
 · by_cases h2:i1=i2
   · by_cases h3:x1=y1
     · by_cases h4:x2=y2
       · by_cases h5:x3=y3
         · by_cases h6:x4=y4
           · by_cases h7:x5=y5 <;> (go_simp;simp [ddEq,legEq,h1,h2,h3,h4,h5,h6,h7])
           · (go_simp;simp [ddEq,legEq,h1,h2,h3,h4,h5,h6])
         · (go_simp;simp [ddEq,legEq,h1,h2,h3,h4,h5])
       · (go_simp;simp [ddEq,legEq,h1,h2,h3,h4])
     · (go_simp;simp [ddEq,legEq,h1,h2,h3])
   · (go_simp;simp [ddEq,h1,h2])
 · (go_simp;simp [ddEq,h1])
theorem ddEq_iff (d e:Dd):ddEq d.kind d.index d.leg.frm d.leg.to d.leg.east d.leg.north d.leg.up e.kind e.index e.leg.frm e.leg.to e.leg.east e.leg.north e.leg.up=decide (d=e):=by
 obtain ⟨k1,i1,g⟩:=d
 obtain ⟨k2,i2,h⟩:=e
 have:=legEq_iff g h
 simp only at this ⊢
 unfold ddEq
 rw [this]
 simp [Bool.and_assoc,Bool.decide_and]

set_option maxRecDepth 100000 in
theorem sameSurvey_any (a1 a2:Option Addr) (c1 c2:Nat) (s t:Int) (l m:List Lg) (w:World) (hl:l.length≤1048576) (hm:m.length≤1048576) (h1:Legs w a1 l) (h2:Legs w a2 m) :
 Calls Tryz.prog 18 #[.agg #[.int .i64 s,.slice a1 l.length c1],.agg #[.int .i64 t,.slice a2 m.length c2]] w fun e w'=>e=.returned (.bool (decide ((⟨s,l⟩:Sv)=⟨t,m⟩)))∧Below w.heap.size w w':=by
 obtain ⟨X,hX⟩:∃ X,w.heap.size=X:=⟨_,rfl⟩
 obtain ⟨W,hW⟩:∃ W,W=(w.alloc (.cells #[.int .i64 s,.slice a1 l.length c1] 25)).alloc (.cells #[.int .i64 t,.slice a2 m.length c2] 25):=⟨_,rfl⟩
 have S0:At W X [.int .i64 s,.slice a1 l.length c1]:=by rw [hW];exact (At.new _ _ _ hX.symm rfl).alloc _
 have T0:At W (X+1) [.int .i64 t,.slice a2 m.length c2]:=by rw [hW];exact At.new _ _ _ (by simp [hX]) rfl
 have bW:Below w.heap.size w W:=by rw [hW];exact qBl
 replace h1:=h1.below bW
 replace h2:=h2.below bW
 obtain ⟨x0,x1,x2,-⟩:=id S0.facts2
 obtain ⟨y0,y1,y2,-⟩:=id T0.facts2
 by_cases hst:s=t
 case neg =>
  have hE:Hid (decide ((⟨s,l⟩:Sv)=⟨t,m⟩)=false):=dec_no (by rw [sv_eq];exact fun h=>hst h.1)
  have hne:(s != t)=true:=by simpa using hst
  clear hst h1 h2
  go_enter Tryz.func18,Tryz.ntmps18
  go_upto_region 1 with fail
  rw [← hW]
  clear hW
  go_wp2_with fail
  go_ret
  exact ⟨by rw [hE.out];rfl,bW⟩
 have hst':(s != t)=false:=by simpa using hst
 by_cases hlen:l.length=m.length
 case neg =>
  have hE:Hid (decide ((⟨s,l⟩:Sv)=⟨t,m⟩)=false):=dec_no (by rw [sv_eq];exact fun h=>hlen (by rw [h.2]))
  have hne:((l.length:Int) != (m.length:Int))=true:=by simp;omega
  clear hst h1 h2 hlen
  go_enter Tryz.func18,Tryz.ntmps18
  go_upto_region 1 with fail
  rw [← hW]
  clear hW
  go_wp2_with fail
  go_ret
  exact ⟨by rw [hE.out];rfl,bW⟩
 have hne:((l.length:Int) != (m.length:Int))=false:=by simp [hlen]
 have HL:=Lib.hid hlen
 have HS:=Lib.hid hst
 clear hlen hst
 go_enter Tryz.func18,Tryz.ntmps18
 go_upto_region 1 with fail
 rw [← hW]
 clear hW
 go_wp2_with fail
 clear hne hst'
 go_loopw [5] (fun i wr=>∃ (k q:Nat),k≤l.length∧i=.int .i64 k∧Hid (l.take k=m.take k)∧wr=W.drewN q) (fun i _=>l.length - (intOf i).toNat)
 case atStart=>exact ⟨0,0,by omega,rfl,rfl,rfl⟩
 case round =>
  obtain ⟨k,q,hk,rfl,HT,rfl⟩:=hrel
  by_cases hlt:k<l.length
  · have hlt2:k<m.length:=by rw [← HL.out];exact hlt
    obtain ⟨b,off,rfl,hbw,p0,p1,p2,p3,p4⟩:=Legs.at h1 hlt
    obtain ⟨b',off',rfl,hbw',q0,q1,q2,q3,q4⟩:=Legs.at h2 hlt2
    have hE:=run_legNe (nth l k).frm (nth l k).to (nth l k).east (nth l k).north (nth l k).up (nth m k).frm (nth m k).to (nth m k).east (nth m k).north (nth m k).up
    rw [legEq_iff] at hE
    by_cases hx:nth l k=nth m k
    · have HX:=Lib.hid hx
      rw [dec_yes hx] at hE
      clear hx h1 h2
      go_wp2_with fail
      go_quiet (fail)
      go_wp2_with fail
      go_roundw
      case rel=>exact ⟨k+1,_,by omega,by go_num,take_eq_step hlt hlt2 HT.out HX.out,rfl⟩
      case measure=>simp [intOf] <;> omega
    · have HNO:Hid (decide ((⟨s,l⟩:Sv)=⟨t,m⟩)=false):=dec_no (by rw [sv_eq];exact fun e=>hx (by rw [e.2]))
      rw [dec_no hx] at hE
      clear hx h1 h2
      go_wp2_with fail
      go_quiet (fail)
      go_wp2_with fail
      go_ret
      exact ⟨by rw [HNO.out];rfl,by first|exact below_drewN bW _|exact below_drewN (below_drewN bW _) _⟩
  · have HE:Hid (decide ((⟨s,l⟩:Sv)=⟨t,m⟩)=true):=dec_yes (by
     have h:=HT.out
     rw [List.take_of_length_le (by omega),List.take_of_length_le (by rw [← HL.out];omega)] at h
     rw [sv_eq];exact ⟨HS.out,h⟩)
    go_wp2_with fail
    go_ret
    exact ⟨by rw [HE.out];rfl,below_drewN bW _⟩

set_option maxRecDepth 100000 in
theorem sameDeeds_any (a1 a2:Option Addr) (c1 c2:Nat) (xs ys:List Dd) (w:World) (hl1:xs.length≤1048576) (_:ys.length≤1048576) (h1:Dds w a1 xs) (h2:Dds w a2 ys) :
 Calls Tryz.prog 41 #[.slice a1 xs.length c1,.slice a2 ys.length c2] w fun e w'=>e=.returned (.bool (decide (xs=ys)))∧Below w.heap.size w w':=by
 by_cases hlen:xs.length=ys.length
 · have hne:((xs.length:Int) != (ys.length:Int))=false:=by simp [hlen]
   have HL:=Lib.hid hlen
   clear hlen
   go_enter Tryz.func41,Tryz.ntmps41
   go_wp2_with fail
   clear hne
   go_loopw [5] (fun i wr=>∃ (k q:Nat),k≤xs.length∧i=.int .i64 k∧Hid (xs.take k=ys.take k)∧wr=w.drewN q) (fun i _=>xs.length - (intOf i).toNat)
   case atStart=>exact ⟨0,0,by omega,rfl,rfl,rfl⟩
   case round =>
    obtain ⟨k,q,hk,rfl,HT,rfl⟩:=hrel
    by_cases hlt:k<xs.length
    · have hlt2:k<ys.length:=by rw [← HL.out];exact hlt
      obtain ⟨b,off,rfl,hbw,p0,p1,p2,p3,p4,p5,p6⟩:=Dds.at h1 hlt
      obtain ⟨b',off',rfl,hbw',q0,q1,q2,q3,q4,q5,q6⟩:=Dds.at h2 hlt2
      have hE:=run_ddNe (nth xs k).kind (nth xs k).index (nth xs k).leg.frm (nth xs k).leg.to (nth xs k).leg.east (nth xs k).leg.north (nth xs k).leg.up (nth ys k).kind (nth ys k).index (nth ys k).leg.frm (nth ys k).leg.to (nth ys k).leg.east (nth ys k).leg.north (nth ys k).leg.up
      rw [ddEq_iff] at hE
      by_cases hx:nth xs k=nth ys k
      · have HX:=Lib.hid hx
        rw [dec_yes hx] at hE
        clear hx h1 h2
        go_wp2_with fail
        go_quiet (fail)
        go_wp2_with fail
        go_roundw
        case rel=>exact ⟨k+1,_,by omega,by go_num,take_eq_step hlt hlt2 HT.out HX.out,rfl⟩
        case measure=>simp [intOf] <;> omega
      · have HNO:Hid (decide (xs=ys)=false):=dec_no (fun e=>hx (by rw [e]))
        rw [dec_no hx] at hE
        clear hx h1 h2
        go_wp2_with fail
        go_quiet (fail)
        go_wp2_with fail
        go_ret
        exact ⟨by rw [HNO.out];rfl,by first|exact below_drewN (Below.refl _ _) _|exact below_drewN (below_drewN (Below.refl _ _) _) _⟩
    · have HE:Hid (decide (xs=ys)=true):=dec_yes (by
       have h:=HT.out
       rw [List.take_of_length_le (by omega),List.take_of_length_le (by rw [← HL.out];omega)] at h
       exact h)
      go_wp2_with fail
      go_ret
      exact ⟨by rw [HE.out];rfl,below_drewN (Below.refl _ _) _⟩
 · have hne:((xs.length:Int) != (ys.length:Int))=true:=by simp;omega
   have HNO:Hid (decide (xs=ys)=false):=dec_no (fun e=>hlen (by rw [e]))
   clear hlen
   go_enter Tryz.func41,Tryz.ntmps41
   go_wp2_with fail
   go_ret
   exact ⟨by rw [HNO.out];rfl,Below.refl _ _⟩

theorem bk_eq (s t:Int) (l l':List Lg) (d d' u u':List Dd):((⟨⟨s,l⟩,d,u⟩:Bk)=⟨⟨t,l'⟩,d',u'⟩)=((⟨s,l⟩:Sv)=⟨t,l'⟩∧d=d'∧u=u'):=by simp
set_option maxRecDepth 100000 in
theorem sameBook_any (a1 a2 a3 a1' a2' a3':Option Addr) (c1 c2 c3 c1' c2' c3':Nat) (s t:Int) (l l':List Lg) (d u d' u':List Dd) (w:World) (hl:l.length≤1048576) (hd:d.length≤1048576) (hu:u.length≤1048576) (hl':l'.length≤1048576) (hd':d'.length≤1048576) (hu':u'.length≤1048576)
 (h1:RdB w a1 a2 a3 ⟨⟨s,l⟩,d,u⟩) (h2:RdB w a1' a2' a3' ⟨⟨t,l'⟩,d',u'⟩) :
 Calls Tryz.prog 10 #[.agg #[.int .i64 s,.slice a1 l.length c1,.slice a2 d.length c2,.slice a3 u.length c3],.agg #[.int .i64 t,.slice a1' l'.length c1',.slice a2' d'.length c2',.slice a3' u'.length c3']] w fun e w'=>e=.returned (.bool (decide ((⟨⟨s,l⟩,d,u⟩:Bk)=⟨⟨t,l'⟩,d',u'⟩)))∧Below w.heap.size w w':=by
 obtain ⟨X,hX⟩:∃ X,w.heap.size=X:=⟨_,rfl⟩
 obtain ⟨W,hW⟩:∃ W,W=(w.alloc (.cells #[.int .i64 s,.slice a1 l.length c1,.slice a2 d.length c2,.slice a3 u.length c3] 28)).alloc (.cells #[.int .i64 t,.slice a1' l'.length c1',.slice a2' d'.length c2',.slice a3' u'.length c3'] 28):=⟨_,rfl⟩
 have A0:At W X [.int .i64 s,.slice a1 l.length c1,.slice a2 d.length c2,.slice a3 u.length c3]:=by rw [hW];exact (At.new _ _ _ hX.symm rfl).alloc _
 have R0:At W (X+1) [.int .i64 t,.slice a1' l'.length c1',.slice a2' d'.length c2',.slice a3' u'.length c3']:=by rw [hW];exact At.new _ _ _ (by simp [hX]) rfl
 have bW:Below w.heap.size w W:=by rw [hW];exact qBl
 obtain ⟨E1,hE1⟩:∃ b,decide ((⟨s,l⟩:Sv)=⟨t,l'⟩)=b:=⟨_,rfl⟩
 obtain ⟨E2,hE2⟩:∃ b,decide (d=d')=b:=⟨_,rfl⟩
 obtain ⟨E3,hE3⟩:∃ b,decide (u=u')=b:=⟨_,rfl⟩
 have HE:Hid (decide ((⟨⟨s,l⟩,d,u⟩:Bk)=⟨⟨t,l'⟩,d',u'⟩)=(E1 && (E2 && E3))):=by
  show _=_
  rw [← hE1,← hE2,← hE3,← Bool.decide_and,← Bool.decide_and]
  exact decide_eq_decide.2 (by rw [bk_eq])
 go_enter Tryz.func10,Tryz.ntmps10
 go_wp2_with fail
 rw [← hW]
 clear hW
 refine (sameSurvey_any _ _ _ _ s t l l' _ hl hl' (h1.l.below bW) (h2.l.below bW)).mono ?_
 rintro e w1 ⟨rfl,k1⟩
 rw [hE1]
 replace A0:=A0.below k1
 replace R0:=R0.below k1
 replace bW:=bW.trans (k1.mono bW.size)
 clear k1 hE1
 obtain ⟨z0,z1,z2,z3,z4,-⟩:=A0.facts4
 obtain ⟨q0,q1,q2,q3,q4,-⟩:=R0.facts4
 cases E1
 · go_wp2_with fail
   go_ret
   exact ⟨by rw [HE.out];rfl,bW⟩
 go_wp2_with fail
 refine (sameDeeds_any _ _ _ _ d d' _ hd hd' (h1.d.below bW) (h2.d.below bW)).mono ?_
 rintro e w2 ⟨rfl,k2⟩
 rw [hE2]
 replace A0:=A0.below k2
 replace R0:=R0.below k2
 replace bW:=bW.trans (k2.mono bW.size)
 clear k2 hE2 z0 z1 z2 z3 z4 q0 q1 q2 q3 q4
 obtain ⟨z0,z1,z2,z3,z4,-⟩:=A0.facts4
 obtain ⟨q0,q1,q2,q3,q4,-⟩:=R0.facts4
 cases E2
 · go_wp2_with fail
   go_ret
   exact ⟨by rw [HE.out];rfl,bW⟩
 go_wp2_with fail
 refine (sameDeeds_any _ _ _ _ u u' _ hu hu' (h1.u.below bW) (h2.u.below bW)).mono ?_
 rintro e w3 ⟨rfl,k3⟩
 rw [hE3]
 replace bW:=bW.trans (k3.mono bW.size)
 clear k3 hE3 z0 z1 z2 z3 z4 q0 q1 q2 q3 q4 A0 R0
 go_wp2_with fail
 go_ret
 exact ⟨by rw [HE.out];rfl,bW⟩

theorem leg_one:legB ⟨0,1,3,-4,2⟩=⟨#[48,62,49,58,51,44,45,52,44,50]⟩:=by decide +kernel
theorem leg_two:legB ⟨0,0,0,0,0⟩=⟨#[]⟩:=by decide +kernel

theorem alive_any (w:World) (hp:Pow w) :
 Calls Tryz.prog 14 #[] w fun e w'=>e=.returned (.bool true)∧Below w.heap.size w w':=by
 go_enter Tryz.func14,Tryz.ntmps14
 go_wp2_with fail
 refine (legText_any ⟨0,1,3,-4,2⟩ _ hp).mono ?_
 rintro e w1 ⟨rfl,b1⟩
 rw [leg_one]
 go_wp2_with fail
 refine (legText_any ⟨0,0,0,0,0⟩ _ (hp.below b1)).mono ?_
 rintro e w2 ⟨rfl,b2⟩
 rw [leg_two]
 go_wp2
 go_ret
 exact ⟨rfl,b1.trans (b2.mono b1.size)⟩
end Go.Proofs.YthfoloefkfadlaaGreatDoor

namespace Go.Proofs.YthfoloefkfadlaaGreatDoor
open Go Go.RowKit Go.Sort

end Go.Proofs.YthfoloefkfadlaaGreatDoor
