/- Walks: texts of legs: strconv.Itoa, impl.wayText, impl.legWay, impl.LegText. Walks: texts in the reference: spec.l1Number. Walks: texts of legs in the reference; names of the kinds of deeds in both. Walks: texts of deeds, impl and spec. Walks: spec.DeedText; the law FnExactDeedText. Walks: texts of surveys, impl and spec. Plain law of texts: how long they are; a separator behind a text. No program. Texts of books: what they are. No program. -/
import Derived.Test.YthfoloefkfadlaaGreatDoorK2
import Derived.Test.YthfoloefkfadlaaGreatDoorShelf
import Derived.Lib.QuietBelow
import Derived.Lib.ItoaLen
import Derived.Lib.AppendIntMem
import Derived.Lib.ItoaMem
import Derived.Laws.IdiomStrings
import Derived.Test.YthfoloefkfadlaaGreatDoorK3
set_option linter.unusedSimpArgs false
set_option linter.unusedVariables false
namespace Go.Proofs.YthfoloefkfadlaaGreatDoor
open Go Go.RowKit Go.Sort

def Pow (w:World):Prop:=Lib.TabIs Tryz.prog w "internal/strconv.uint64pow10" .u64 Lib.pow10Tab
theorem Pow.below {w w':World} (h:Pow w) (hb:Below w.heap.size w w'):Pow w':=Lib.tabBelow_of_tabIs h w' hb

def itoaB (n:Int):ByteArray:=⟨(Lib.itoa n).toArray⟩
theorem itoaB_size {n:Int} (h0 : -9223372036854775808≤n) (h1:n≤9223372036854775807):(itoaB n).size≤21:=by
 have:=Lib.itoa_length_le n h0 h1
 simpa [itoaB,ByteArray.size] using this

theorem itoa_any (n:Int) (h0 : -9223372036854775808≤n) (h1:n≤9223372036854775807) (w:World) (h:Pow w) :
 Calls Tryz.prog 88 #[.int .i64 n] w fun e w'=>e=.returned (.string (itoaB n))∧Below w.heap.size w w' :=
 (Tryz.strconv_Itoa n h0 h1 w h).mono fun e w' ⟨he,k,os,hw⟩=>⟨he,by
  subst hw
  exact ⟨rfl,rfl,rfl,by simp [grow,World.drewN],fun j hj=>by simp [grow,World.drewN,Array.getElem?_append,hj]⟩⟩

theorem grown_calls {f:FuncId} {args:Array Value} {w:World} {v:Value} (hp:Pow w)
 (h:∀ w,Pow w→Calls Tryz.prog f args w fun e w'=>e=.returned v∧Below w.heap.size w w') (d:Nat) (os:Array Obj) :
 Calls Tryz.prog f args (grow (redrawn w d) os) fun e w''=>e=.returned v∧∃ p:Regrown,w''=grow (redrawn w p.d) p.os :=
 Calls.regrown_of (h _ (hp.below (below_regrown w d os)))

def wayB (a b c:Int):ByteArray:=itoaB a ++ ⟨#[44]⟩ ++ itoaB b ++ ⟨#[44]⟩ ++ itoaB c
theorem wayText_any (a b c:Int) (ha : -9223372036854775808≤a∧a≤9223372036854775807) (hb : -9223372036854775808≤b∧b≤9223372036854775807) (hc : -9223372036854775808≤c∧c≤9223372036854775807) (w:World) (hp:Pow w) :
 Calls Tryz.prog 89 #[.agg #[.int .i64 a,.int .i64 b,.int .i64 c]] w fun e w'=>e=.returned (.string (wayB a b c))∧Below w.heap.size w w':=by
 have s1:=itoaB_size ha.1 ha.2
 have s2:=itoaB_size hb.1 hb.2
 have s3:=itoaB_size hc.1 hc.2
 go_enter Tryz.func89,Tryz.ntmps89
 go_wp2_with fail
 obtain ⟨W,hW⟩:∃ W,W=w.alloc (.cells #[.int .i64 a,.int .i64 b,.int .i64 c] 109):=⟨_,rfl⟩
 have bW:Below w.heap.size w W:=by rw [hW];exact qBl
 have c1:W.cell? ⟨w.heap.size,0,none⟩=some (.int .i64 a):=by rw [hW];simp
 have c2:W.cell? ⟨w.heap.size,1,none⟩=some (.int .i64 b):=by rw [hW];simp
 have c3:W.cell? ⟨w.heap.size,2,none⟩=some (.int .i64 c):=by rw [hW];simp
 rw [← hW]
 have pW:=hp.below bW
 clear hW
 have k1:=cell_regrown c1
 have k2:=cell_regrown c2
 have k3:=cell_regrown c3
 have i1:=grown_calls pW (itoa_any a ha.1 ha.2)
 have i2:=grown_calls pW (itoa_any b hb.1 hb.2)
 have i3:=grown_calls pW (itoa_any c hc.1 hc.2)
 have n1:¬ 9223372036854775807<(itoaB a).size+1:=by omega
 have n2:¬ 9223372036854775807<(itoaB a).size+1+(itoaB b).size:=by omega
 have n3:¬ 9223372036854775807<(itoaB a).size+1+(itoaB b).size+1:=by omega
 have n4:¬ 9223372036854775807<(itoaB a).size+1+(itoaB b).size+1+(itoaB c).size:=by omega
 refine wp_region_quiet_below (by kernel_rfl) (by kernel_rfl) ?_
 repeat (quiet_step (first|with_reducible exact i1 _ _|with_reducible exact i2 _ _|with_reducible exact i3 _ _))
 refine wpQuiet_nil ?_
 intro _ hw'
 obtain ⟨⟨dq,osq⟩,hw''⟩:=hw'
 have fin:Below w.heap.size w (grow (redrawn W dq) osq):=bW.trans ((below_regrown W dq osq).mono bW.size)
 subst hw''
 generalize grow (redrawn W dq) osq=W2 at fin ⊢
 go_wp2
 go_ret
 exact ⟨by simp only [wayB];rfl,fin⟩

theorem legWay_any (g:Lg) (w:World) :
 Calls Tryz.prog 90 #[g.val] w fun e w'=>e=.returned (.agg #[.int .i64 g.east,.int .i64 g.north,.int .i64 g.up])∧Below w.heap.size w w':=by
 obtain ⟨x1,x2,x3,x4,x5⟩:=g
 show Calls Tryz.prog 90 #[.agg #[.int .i64 x1,.int .i64 x2,.int .i64 x3,.int .i64 x4,.int .i64 x5]] w _
 go_enter Tryz.func90,Tryz.ntmps90
 go_wp2
 refine bodyPost_ret (v:=.agg #[.int .i64 x3,.int .i64 x4,.int .i64 x5]) (by simp [results,Tryz.results90,go_sem]) rfl ⟨rfl,qBl⟩

def legB (g:Lg):ByteArray:=if legOk 6 g then itoaB g.frm ++ ⟨#[62]⟩ ++ itoaB g.to ++ ⟨#[58]⟩ ++ wayB g.east g.north g.up else ⟨#[]⟩

theorem legText_any (g:Lg) (w:World) (hp:Pow w) :
 Calls Tryz.prog 45 #[g.val] w fun e w'=>e=.returned (.string (legB g))∧Below w.heap.size w w':=by
 cases hv:legOk 6 g
 · have hB:legB g=⟨#[]⟩:=by simp [legB,hv]
   obtain ⟨x1,x2,x3,x4,x5⟩:=g
   show Calls Tryz.prog 45 #[.agg #[.int .i64 x1,.int .i64 x2,.int .i64 x3,.int .i64 x4,.int .i64 x5]] w _
   have HB:=Lib.hid hB
   clear hB
   go_enter Tryz.func45,Tryz.ntmps45
   go_wp2_with (go_at_call 87;refine (legValid_any 6 ⟨x1,x2,x3,x4,x5⟩ _).mono ?_;rintro e w' ⟨rfl,hb⟩)
   go_ret
   exact ⟨by rw [HB.out];rfl,((Below.refl _ _).alloc (Nat.le_refl _) _).trans (hb.mono (by simp))⟩
 obtain ⟨hr1,hr2,hr3,hr4,hr5⟩:=legOk_range (by omega) hv
 have hB:legB g=itoaB g.frm ++ ⟨#[62]⟩ ++ itoaB g.to ++ ⟨#[58]⟩ ++ wayB g.east g.north g.up:=by simp [legB,hv]
 obtain ⟨x1,x2,x3,x4,x5⟩:=g
 simp only at hr1 hr2 hr3 hr4 hr5 hB
 show Calls Tryz.prog 45 #[.agg #[.int .i64 x1,.int .i64 x2,.int .i64 x3,.int .i64 x4,.int .i64 x5]] w _
 have HB:=Lib.hid hB
 clear hB
 have s1:=itoaB_size (n:=x1) (by omega) (by omega)
 have s2:=itoaB_size (n:=x2) (by omega) (by omega)
 have s3:=itoaB_size (n:=x3) (by omega) (by omega)
 have s4:=itoaB_size (n:=x4) (by omega) (by omega)
 have s5:=itoaB_size (n:=x5) (by omega) (by omega)
 have s6:(wayB x3 x4 x5).size≤65:=by unfold wayB;simp only [ByteArray.size_append];show _+1+_+1+_≤_;omega
 go_enter Tryz.func45,Tryz.ntmps45
 go_wp2_with (go_at_call 87;refine (legValid_any 6 ⟨x1,x2,x3,x4,x5⟩ _).mono ?_;rintro e W ⟨rfl,hb⟩)
 have bW:Below w.heap.size w W:=((Below.refl _ _).alloc (Nat.le_refl _) _).trans (hb.mono (by simp))
 have cc:=fun i=>hb.cell (p:=⟨w.heap.size,i,none⟩) (by simp)
 have c1:W.cell? ⟨w.heap.size,0,none⟩=some (.int .i64 x1):=by rw [cc];simp
 have c2:W.cell? ⟨w.heap.size,1,none⟩=some (.int .i64 x2):=by rw [cc];simp
 have c3:W.cell? ⟨w.heap.size,2,none⟩=some (.int .i64 x3):=by rw [cc];simp
 have c4:W.cell? ⟨w.heap.size,3,none⟩=some (.int .i64 x4):=by rw [cc];simp
 have c5:W.cell? ⟨w.heap.size,4,none⟩=some (.int .i64 x5):=by rw [cc];simp
 have pW:=hp.below bW
 clear cc hb
 have k1:=cell_regrown c1
 have k2:=cell_regrown c2
 have k3:=cell_regrown c3
 have k4:=cell_regrown c4
 have k5:=cell_regrown c5
 have i1:=grown_calls pW (itoa_any x1 (by omega) (by omega))
 have i2:=grown_calls pW (itoa_any x2 (by omega) (by omega))
 have i3:=grown_calls pW (fun w _=>legWay_any ⟨x1,x2,x3,x4,x5⟩ w)
 have i4:=grown_calls pW (wayText_any x3 x4 x5 (by omega) (by omega) (by omega))
 simp only [Lg.val] at i3
 have n1:¬ 9223372036854775807<(itoaB x1).size+1:=by omega
 have n2:¬ 9223372036854775807<(itoaB x1).size+1+(itoaB x2).size:=by omega
 have n3:¬ 9223372036854775807<(itoaB x1).size+1+(itoaB x2).size+1:=by omega
 have n4:¬ 9223372036854775807<(itoaB x1).size+1+(itoaB x2).size+1+(wayB x3 x4 x5).size:=by omega
 refine wp_region_quiet_below (by kernel_rfl) (by kernel_rfl) ?_
 repeat (quiet_step (first|with_reducible exact i1 _ _|with_reducible exact i2 _ _|with_reducible exact i3 _ _|with_reducible exact i4 _ _))
 refine wpQuiet_nil ?_
 intro _ hw'
 obtain ⟨⟨dq,osq⟩,hw''⟩:=hw'
 have fin:Below w.heap.size w (grow (redrawn W dq) osq):=bW.trans ((below_regrown W dq osq).mono bW.size)
 subst hw''
 generalize grow (redrawn W dq) osq=W2 at fin ⊢
 go_wp2
 go_ret
 exact ⟨by rw [HB.out];rfl,fin⟩

end Go.Proofs.YthfoloefkfadlaaGreatDoor

namespace Go.Proofs.YthfoloefkfadlaaGreatDoor
open Go Go.RowKit Go.Sort

def decB (u:Nat):ByteArray:=⟨(Lib.decDigits u).toArray⟩
def dig (u:Nat):ByteArray:=⟨#[UInt8.ofNat (48+u)]⟩

theorem byteStr (w:World) (X u:Nat) (hu:u<10) (hc:w.cell? ⟨X,0,none⟩=some (.int .u8 (48+(u:Int)))) :
 (convert 22 9 (.slice (some ⟨X,0,none⟩) 1 1)).run Tryz.prog w=.ok (.string (dig u)) w:=by
 have h:=run_convert_bytes_back (P:=Tryz.prog) w 22 9 5 ⟨X,0,none⟩ 1 [UInt8.ofNat (48+u)] Tryz.underlying22 Tryz.underlying5 Tryz.underlying9 (fun j hj=>by
  have hj0:j=0:=by simpa using hj
  subst hj0
  rw [Addr.add_lit,Nat.add_zero,hc]
  simp;omega)
 exact h

set_option maxRecDepth 100000 in
theorem l1Num_one (u:Nat) (hu:u<10) (w:World) :
 Calls Tryz.prog 81 #[.int .i64 (u:Int)] w fun e w'=>e=.returned (.string (decB u))∧Below w.heap.size w w':=by
 have hd:decB u=dig u:=by unfold decB dig;rw [Lib.decDigits_one hu]
 have hw1:IntKind.i64.wrap ((48:Int)+u)=(48+u:Int):=by rw [IntKind.wrap_i64];omega
 have hn:¬ ((u:Int)<0):=by omega
 have hn2:((u:Int)<10):=by omega
 have kc:=byteStr (w.alloc (.cells #[.int .u8 (48+(u:Int))] 5)) w.heap.size u hu (by simp)
 have HD:=Lib.hid hd
 clear hd
 go_enter Tryz.func81,Tryz.ntmps81
 go_wp2
 go_ret
 exact ⟨by rw [HD.out];rfl,qBl⟩

theorem decB_step (u:Nat) (h:¬ u<10):decB u=decB (u / 10) ++ dig (u % 10):=by
 unfold decB dig
 rw [Lib.decDigits,dif_neg h]
 apply ByteArray.ext
 simp

theorem decB_size (u:Nat) (h:u≤1000000000000000):(decB u).size≤21:=by
 have:=itoaB_size (n:=(u:Int)) (by omega) (by omega)
 simpa [itoaB,decB,Lib.itoa_nonneg] using this

set_option maxRecDepth 100000 in
set_option maxHeartbeats 800000 in
theorem l1Num_nat (u:Nat) (hu:u≤1000000000000000):∀ (w:World),
 Calls Tryz.prog 81 #[.int .i64 (u:Int)] w fun e w'=>e=.returned (.string (decB u))∧Below w.heap.size w w':=by
 induction u using Nat.strongRecOn with
 | _ u ih =>
   intro w
   by_cases h1:u<10
   · exact l1Num_one u h1 w
   obtain ⟨q,hq⟩:∃ q,q=u / 10:=⟨_,rfl⟩
   obtain ⟨r,hr⟩:∃ r,r=u % 10:=⟨_,rfl⟩
   have hd:=decB_step u h1
   have ih2:=ih (u / 10) (by omega) (by omega)
   have hz:=decB_size (u / 10) (by omega)
   have hlt:u % 10<10:=Nat.mod_lt _ (by decide)
   have e1:(u:Int).tdiv 10=((u / 10:Nat):Int):=rfl
   have e2:(u:Int).tmod 10=((u % 10:Nat):Int):=rfl
   rw [← hq] at hd ih2 hz e1
   rw [← hr] at hd hlt e2
   have hs:(dig r).size=1:=rfl
   have hw1:IntKind.i64.wrap ((48:Int)+(r:Int))=(48+(r:Int):Int):=by rw [IntKind.wrap_i64];omega
   have hw2:IntKind.i64.wrap (q:Int)=(q:Int):=by rw [IntKind.wrap_i64];omega
   have hw3:IntKind.u8.wrap ((48:Int)+(r:Int))=(48+(r:Int):Int):=by rw [IntKind.wrap_u8];omega
   have hw4:IntKind.i64.wrap (r:Int)=(r:Int):=by rw [IntKind.wrap_i64];omega
   have hn:¬ ((u:Int)<0):=by omega
   have hn2:¬ ((u:Int)<10):=by omega
   have HD:=Lib.hid hd
   have k1:=fun (w':World)=>byteStr (w'.alloc (.cells #[.int .u8 (48+(r:Int))] 5)) w'.heap.size r hlt (by simp)
   have k2:∀ w':World,(convert 22 9 (.slice (some ⟨w'.heap.size,0,none⟩) 1 1)).run Tryz.prog (w'.alloc (.cells #[.int .u8 (48+(r:Int))] 5)).drew=.ok (.string (dig r)) (w'.alloc (.cells #[.int .u8 (48+(r:Int))] 5)).drew:=fun w'=>k1 w'.drew
   clear hd ih hq hr
   go_enter Tryz.func81,Tryz.ntmps81
   go_wp2_with fail
   go_region_with (go_at_call 81;refine (ih2 _).mono ?_;rintro e w1 ⟨rfl,b1⟩;have kc:=b1.cell (p:=⟨w.heap.size,0,none⟩);simp at kc;have b2:Below w.heap.size w w1:=Below.trans (by repeat (first|exact Below.refl _ _|refine Below.drew ?_|refine Below.alloc ?_ (by simp) _)) (b1.mono (by simp));clear b1;first|have kq:=byteStr w1 w.heap.size r hlt kc|skip)
   all_goals
    go_wp2
    go_ret
    exact ⟨by rw [HD.out];rfl,by first|exact b2|exact b2.alloc b2.size _⟩

theorem l1Num_neg (u:Nat) (h1:1≤u) (hu:u≤1000000000000000) (w:World) :
 Calls Tryz.prog 81 #[.int .i64 (-(u:Int))] w fun e w'=>e=.returned (.string (itoaB (-(u:Int))))∧Below w.heap.size w w':=by
 have hd:itoaB (-(u:Int))=(⟨#[45]⟩:ByteArray) ++ decB u:=by
  unfold itoaB decB;rw [Lib.itoa_neg u h1];apply ByteArray.ext;simp
 have hz:=decB_size u hu
 have i1:=l1Num_nat u hu
 have hn:(-(u:Int)<0):=by omega
 have hne:¬ (-(u:Int)=(u:Int)):=by omega
 have hw2:IntKind.i64.wrap (u:Int)=(u:Int):=by rw [IntKind.wrap_i64];omega
 have HD:=Lib.hid hd
 clear hd
 go_enter Tryz.func81,Tryz.ntmps81
 go_wp2_with (go_at_call 81;refine (i1 _).mono ?_;rintro e w' ⟨rfl,hb⟩)
 go_ret
 exact ⟨by rw [HD.out];rfl,hb⟩

theorem l1Num_any (n:Int) (h0 : -1000000000000000≤n) (h1:n≤1000000000000000) (w:World) :
 Calls Tryz.prog 81 #[.int .i64 n] w fun e w'=>e=.returned (.string (itoaB n))∧Below w.heap.size w w':=by
 by_cases h:n<0
 · have:=l1Num_neg n.natAbs (by omega) (by omega) w
   rwa [show -((n.natAbs:Nat):Int)=n by omega] at this
 · have:=l1Num_nat n.toNat (by omega) w
   rw [show ((n.toNat:Nat):Int)=n by omega] at this
   rwa [show decB n.toNat=itoaB n by unfold decB itoaB Lib.itoa;rw [if_neg h]] at this
end Go.Proofs.YthfoloefkfadlaaGreatDoor

namespace Go.Proofs.YthfoloefkfadlaaGreatDoor
open Go Go.RowKit Go.Sort

theorem slegText_any (g:Lg) (w:World) :
 Calls Tryz.prog 131 #[g.val] w fun e w'=>e=.returned (.string (legB g))∧Below w.heap.size w w':=by
 cases hv:legOk 6 g
 · have hB:legB g=⟨#[]⟩:=by simp [legB,hv]
   obtain ⟨x1,x2,x3,x4,x5⟩:=g
   show Calls Tryz.prog 131 #[.agg #[.int .i64 x1,.int .i64 x2,.int .i64 x3,.int .i64 x4,.int .i64 x5]] w _
   have HB:=Lib.hid hB
   clear hB
   go_enter Tryz.func131,Tryz.ntmps131
   go_wp2_with (go_at_call 84;refine (slegValid_any 6 ⟨x1,x2,x3,x4,x5⟩ _).mono ?_;rintro e w' ⟨rfl,hb⟩)
   go_ret
   exact ⟨by rw [HB.out];rfl,((Below.refl _ _).alloc (Nat.le_refl _) _).trans (hb.mono (by simp))⟩
 obtain ⟨hr1,hr2,hr3,hr4,hr5⟩:=legOk_range (by omega) hv
 have hB:legB g=itoaB g.frm ++ ⟨#[62]⟩ ++ itoaB g.to ++ ⟨#[58]⟩ ++ itoaB g.east ++ ⟨#[44]⟩ ++ itoaB g.north ++ ⟨#[44]⟩ ++ itoaB g.up:=by
  simp [legB,hv,wayB,ByteArray.append_assoc]
 obtain ⟨x1,x2,x3,x4,x5⟩:=g
 simp only at hr1 hr2 hr3 hr4 hr5 hB
 show Calls Tryz.prog 131 #[.agg #[.int .i64 x1,.int .i64 x2,.int .i64 x3,.int .i64 x4,.int .i64 x5]] w _
 have HB:=Lib.hid hB
 clear hB
 have s1:=itoaB_size (n:=x1) (by omega) (by omega)
 have s2:=itoaB_size (n:=x2) (by omega) (by omega)
 have s3:=itoaB_size (n:=x3) (by omega) (by omega)
 have s4:=itoaB_size (n:=x4) (by omega) (by omega)
 have s5:=itoaB_size (n:=x5) (by omega) (by omega)
 go_enter Tryz.func131,Tryz.ntmps131
 go_wp2_with (go_at_call 84;refine (slegValid_any 6 ⟨x1,x2,x3,x4,x5⟩ _).mono ?_;rintro e W ⟨rfl,hb⟩)
 have bW:Below w.heap.size w W:=((Below.refl _ _).alloc (Nat.le_refl _) _).trans (hb.mono (by simp))
 have cc:=fun i=>hb.cell (p:=⟨w.heap.size,i,none⟩) (by simp)
 have c1:W.cell? ⟨w.heap.size,0,none⟩=some (.int .i64 x1):=by rw [cc];simp
 have c2:W.cell? ⟨w.heap.size,1,none⟩=some (.int .i64 x2):=by rw [cc];simp
 have c3:W.cell? ⟨w.heap.size,2,none⟩=some (.int .i64 x3):=by rw [cc];simp
 have c4:W.cell? ⟨w.heap.size,3,none⟩=some (.int .i64 x4):=by rw [cc];simp
 have c5:W.cell? ⟨w.heap.size,4,none⟩=some (.int .i64 x5):=by rw [cc];simp
 clear cc hb
 have k1:=cell_regrown c1
 have k2:=cell_regrown c2
 have k3:=cell_regrown c3
 have k4:=cell_regrown c4
 have k5:=cell_regrown c5
 have i1:=fun d os=>Calls.regrown_of (l1Num_any x1 (by omega) (by omega) (grow (redrawn W d) os))
 have i2:=fun d os=>Calls.regrown_of (l1Num_any x2 (by omega) (by omega) (grow (redrawn W d) os))
 have i3:=fun d os=>Calls.regrown_of (l1Num_any x3 (by omega) (by omega) (grow (redrawn W d) os))
 have i4:=fun d os=>Calls.regrown_of (l1Num_any x4 (by omega) (by omega) (grow (redrawn W d) os))
 have i5:=fun d os=>Calls.regrown_of (l1Num_any x5 (by omega) (by omega) (grow (redrawn W d) os))
 have n1:¬ 9223372036854775807<(itoaB x1).size+1:=by omega
 have n2:¬ 9223372036854775807<(itoaB x1).size+1+(itoaB x2).size:=by omega
 have n3:¬ 9223372036854775807<(itoaB x1).size+1+(itoaB x2).size+1:=by omega
 have n4:¬ 9223372036854775807<(itoaB x1).size+1+(itoaB x2).size+1+(itoaB x3).size:=by omega
 have n5:¬ 9223372036854775807<(itoaB x1).size+1+(itoaB x2).size+1+(itoaB x3).size+1:=by omega
 have n6:¬ 9223372036854775807<(itoaB x1).size+1+(itoaB x2).size+1+(itoaB x3).size+1+(itoaB x4).size:=by omega
 have n7:¬ 9223372036854775807<(itoaB x1).size+1+(itoaB x2).size+1+(itoaB x3).size+1+(itoaB x4).size+1:=by omega
 have n8:¬ 9223372036854775807<(itoaB x1).size+1+(itoaB x2).size+1+(itoaB x3).size+1+(itoaB x4).size+1+(itoaB x5).size:=by omega
 refine wp_region_quiet_below (by kernel_rfl) (by kernel_rfl) ?_
 repeat (quiet_step (first|with_reducible exact i1 _ _|with_reducible exact i2 _ _|with_reducible exact i3 _ _|with_reducible exact i4 _ _|with_reducible exact i5 _ _))
 refine wpQuiet_nil ?_
 intro _ hw'
 obtain ⟨⟨dq,osq⟩,hw''⟩:=hw'
 have fin:Below w.heap.size w (grow (redrawn W dq) osq):=bW.trans ((below_regrown W dq osq).mono bW.size)
 subst hw''
 generalize grow (redrawn W dq) osq=W2 at fin ⊢
 go_wp2
 go_ret
 exact ⟨by rw [HB.out];rfl,fin⟩

def nameB (k:Int):ByteArray:=if k=0 then ⟨#[112,117,116]⟩ else if k=1 then ⟨#[100,114,111,112]⟩ else if k=2 then ⟨#[116,117,114,110]⟩ else if k=3 then ⟨#[115,101,116]⟩ else if k=4 then ⟨#[109,111,114,101]⟩ else ⟨#[108,101,115,115]⟩

theorem deedWord_any (k:Int) (h:0≤k∧k≤5) (w:World):Calls Tryz.prog 96 #[.int .i64 k] w fun e w'=>e=.returned (.string (nameB k))∧w=w':=by
 have hk:k=0∨k=1∨k=2∨k=3∨k=4∨k=5:=by omega
 clear h
 rcases hk with rfl|rfl|rfl|rfl|rfl|rfl
 all_goals
  go_enter Tryz.func96,Tryz.ntmps96
  go_wp2
  go_ret
  exact ⟨rfl,rfl⟩

set_option maxRecDepth 100000 in
theorem l7Name_any (k:Int) (h:0≤k∧k≤5) (w:World):Calls Tryz.prog 105 #[.int .i64 k] w fun e w'=>e=.returned (.string (nameB k))∧Below w.heap.size w w':=by
 have hk:k=0∨k=1∨k=2∨k=3∨k=4∨k=5:=by omega
 clear h
 rcases hk with rfl|rfl|rfl|rfl|rfl|rfl
 all_goals
  go_enter Tryz.func105,Tryz.ntmps105
  go_wp2
  go_ret
  exact ⟨rfl,qBl⟩
end Go.Proofs.YthfoloefkfadlaaGreatDoor

namespace Go.Proofs.YthfoloefkfadlaaGreatDoor
open Go Go.RowKit Go.Sort

def deedB (d:Dd):ByteArray :=
 if ddIn d then (if d.kind=0∨d.kind=3 then nameB d.kind ++ (⟨#[32]⟩ ++ itoaB d.index) ++ (⟨#[32]⟩ ++ legB d.leg) else if d.kind<4 then nameB d.kind ++ (⟨#[32]⟩ ++ itoaB d.index) else nameB d.kind) else ⟨#[]⟩

theorem nameB_size (k:Int):(nameB k).size≤4:=by
 unfold nameB
 repeat' (first|split|decide)
theorem legB_size {g:Lg} (h:legOk 6 g=true):1≤(legB g).size∧(legB g).size≤200:=by
 obtain ⟨hr1,hr2,hr3,hr4,hr5⟩:=legOk_range (by omega) h
 have s1:=itoaB_size (n:=g.frm) (by omega) (by omega)
 have s2:=itoaB_size (n:=g.to) (by omega) (by omega)
 have s3:=itoaB_size (n:=g.east) (by omega) (by omega)
 have s4:=itoaB_size (n:=g.north) (by omega) (by omega)
 have s5:=itoaB_size (n:=g.up) (by omega) (by omega)
 unfold legB wayB
 rw [if_pos h]
 simp only [ByteArray.size_append]
 have a1:(⟨#[62]⟩:ByteArray).size=1:=rfl
 have a2:(⟨#[58]⟩:ByteArray).size=1:=rfl
 have a3:(⟨#[44]⟩:ByteArray).size=1:=rfl
 rw [a1,a2,a3]
 omega
theorem legB_ne {g:Lg} (h:legOk 6 g=true):legB g≠⟨#[]⟩:=fun e=>by
 have:=(legB_size h).1
 rw [e] at this
 exact absurd this (by decide)

theorem ddIn_fits {d:Dd} (h:ddIn d=true):ddFits d=true:=by
 unfold ddIn at h;unfold ddFits
 simp only [Bool.and_eq_true,Bool.or_eq_true,Bool.not_eq_true',decide_eq_true_eq,inB] at h
 obtain ⟨⟨⟨⟨h1,h2⟩,h3⟩,h4⟩,h5⟩:=h
 by_cases a:d.kind=0∨d.kind=3
 · rw [if_pos a]
 rw [if_neg a] at h5 ⊢
 by_cases b:d.kind=1∨d.kind=2
 · rw [if_pos b];exact h5
 rw [if_neg b,if_pos (by omega)]
 rcases h4 with h4|h4
 · simp at h4;omega
 · simp [h4] at h5 ⊢;exact h5

set_option maxHeartbeats 2000000 in
theorem deedText_any (d:Dd) (w:World) (hp:Pow w) :
 Calls Tryz.prog 52 #[d.val] w fun e w'=>e=.returned (.string (deedB d))∧Below w.heap.size w w':=by
 cases hf:ddFits d
 · have hB:deedB d=⟨#[]⟩:=by unfold deedB;rw [if_neg];intro h;rw [ddIn_fits h] at hf;cases hf
   have i1:=deedFits_any d
   rw [hf] at i1
   obtain ⟨kd,ix,⟨x1,x2,x3,x4,x5⟩⟩:=d
   simp only [Dd.val] at i1
   show Calls Tryz.prog 52 #[.agg #[.int .i64 kd,.int .i64 ix,.int .i64 x1,.int .i64 x2,.int .i64 x3,.int .i64 x4,.int .i64 x5]] w _
   have HB:=Lib.hid hB
   clear hB hf
   go_enter Tryz.func52,Tryz.ntmps52
   go_wp2_with (go_at_call 97;refine (i1 _).mono ?_;rintro e w1 ⟨rfl,b1⟩)
   go_ret
   exact ⟨by rw [HB.out];first|done|rfl,(by repeat (first|with_reducible assumption|with_reducible exact Below.refl _ _|refine Below.setCell ?_ qSo _|refine Below.alloc ?_ qSo _|with_reducible exact Below.trans (Below.refl _ _) b1|refine Below.trans ?_ (Below.mono b1 qSo)|refine below_drewN ?_ _|refine Below.drew ?_))⟩
 have i1:=deedFits_any d
 rw [hf] at i1
 have hk:d.kind=0∨d.kind=1∨d.kind=2∨d.kind=3∨d.kind=4∨d.kind=5:=by
  unfold ddFits at hf
  by_cases a:d.kind=0∨d.kind=3
  · omega
  rw [if_neg a] at hf
  by_cases b:d.kind=1∨d.kind=2
  · omega
  rw [if_neg b] at hf
  by_cases c:d.kind=4∨d.kind=5
  · omega
  rw [if_neg c] at hf;cases hf
 have i2:=deedWord_any d.kind (by omega)
 have z1:=nameB_size d.kind
 by_cases h4:4≤d.kind
 · have hB:deedB d=nameB d.kind:=by
    unfold deedB
    rw [if_pos,if_neg (by omega),if_neg (by omega)]
    unfold ddFits at hf;unfold ddIn
    rw [if_neg (by omega),if_neg (by omega),if_pos (by omega)] at hf
    rw [if_neg (by omega)]
    simp at hf
    simp [hf.1,hf.2,inB];omega
   obtain ⟨kd,ix,⟨x1,x2,x3,x4,x5⟩⟩:=d
   simp only [Dd.val] at i1 i2 z1 h4 hk
   show Calls Tryz.prog 52 #[.agg #[.int .i64 kd,.int .i64 ix,.int .i64 x1,.int .i64 x2,.int .i64 x3,.int .i64 x4,.int .i64 x5]] w _
   have HB:=Lib.hid hB
   have hk':kd=4∨kd=5:=by omega
   clear hB hf hk h4
   rcases hk' with rfl|rfl
   all_goals
    go_enter Tryz.func52,Tryz.ntmps52
    go_wp2_with (first|(go_at_call 97;refine (i1 _).mono ?_;rintro e w1 ⟨rfl,b1⟩;obtain ⟨hc,_hf⟩:=bcell b1)|(go_at_call 96;refine (i2 _).mono ?_;rintro e w' ⟨rfl,rfl⟩))
    go_ret
    exact ⟨by rw [HB.out];first|done|rfl,(by repeat (first|with_reducible assumption|with_reducible exact Below.refl _ _|refine Below.setCell ?_ qSo _|refine Below.alloc ?_ qSo _|with_reducible exact Below.trans (Below.refl _ _) b1|refine Below.trans ?_ (Below.mono b1 qSo)|refine below_drewN ?_ _|refine Below.drew ?_))⟩
 cases hi:isIdx d.index 10
 · have hB:deedB d=⟨#[]⟩:=by
    unfold deedB;rw [if_neg];intro h
    unfold ddIn at h
    simp only [Bool.and_eq_true,inB,decide_eq_true_eq] at h
    simp [isIdx] at hi
    omega
   obtain ⟨kd,ix,⟨x1,x2,x3,x4,x5⟩⟩:=d
   simp only [Dd.val] at i1 i2 z1 h4 hk hi
   show Calls Tryz.prog 52 #[.agg #[.int .i64 kd,.int .i64 ix,.int .i64 x1,.int .i64 x2,.int .i64 x3,.int .i64 x4,.int .i64 x5]] w _
   have HB:=Lib.hid hB
   have n4:kd<4:=by omega
   clear hB hf hk h4
   go_enter Tryz.func52,Tryz.ntmps52
   go_wp2_with (first|(go_at_call 97;refine (i1 _).mono ?_;rintro e w1 ⟨rfl,b1⟩;obtain ⟨hc,_hf⟩:=bcell b1)|(go_at_call 96;refine (i2 _).mono ?_;rintro e w' ⟨rfl,rfl⟩)|(go_at_call 98;refine (isIndex_any _ _ _).mono ?_;rintro e w' ⟨rfl,rfl⟩))
   go_ret
   exact ⟨by rw [HB.out];first|done|rfl,(by repeat (first|with_reducible assumption|with_reducible exact Below.refl _ _|refine Below.setCell ?_ qSo _|refine Below.alloc ?_ qSo _|with_reducible exact Below.trans (Below.refl _ _) b1|refine Below.trans ?_ (Below.mono b1 qSo)|refine below_drewN ?_ _|refine Below.drew ?_))⟩
 have hix:0≤d.index∧d.index<10:=by simpa [isIdx] using hi
 have i3:=itoa_any d.index (by omega) (by omega)
 have z2:=itoaB_size (n:=d.index) (by omega) (by omega)
 have i4:=legText_any d.leg
 by_cases h03:d.kind=0∨d.kind=3
 · cases hl:legOk 6 d.leg
   · have hB:deedB d=⟨#[]⟩:=by
      unfold deedB;rw [if_neg];intro h
      unfold ddIn at h
      rw [if_pos h03,hl] at h
      simp at h
     have hL:legB d.leg=⟨#[]⟩:=by simp [legB,hl]
     rw [hL] at i4
     obtain ⟨kd,ix,⟨x1,x2,x3,x4,x5⟩⟩:=d
     simp only [Dd.val,Lg.val] at i1 i2 i3 i4 z1 z2 h4 hk hi h03
     show Calls Tryz.prog 52 #[.agg #[.int .i64 kd,.int .i64 ix,.int .i64 x1,.int .i64 x2,.int .i64 x3,.int .i64 x4,.int .i64 x5]] w _
     have HB:=Lib.hid hB
     clear hB hf hk h4 hix hl hL
     rcases h03 with rfl|rfl
     all_goals
      go_enter Tryz.func52,Tryz.ntmps52
      go_wp2_with (first|(go_at_call 97;refine (i1 _).mono ?_;rintro e w1 ⟨rfl,b1⟩;have q1:Below w.heap.size w w1:=((Below.refl _ _).alloc (Nat.le_refl _) _).trans (b1.mono (by simp));obtain ⟨hc1,_hf1⟩:=bcell b1)|(go_at_call 96;refine (i2 _).mono ?_;rintro e w' ⟨rfl,rfl⟩)|(go_at_call 98;refine (isIndex_any _ _ _).mono ?_;rintro e w' ⟨rfl,rfl⟩)|(go_at_call 88;refine (i3 _ (hp.below q1)).mono ?_;rintro e w2 ⟨rfl,b2⟩;have q2:=q1.trans (b2.mono q1.size);obtain ⟨hc2,_hf2⟩:=bcell (b1.trans (b2.mono b1.size)))|(go_at_call 45;refine (i4 _ (hp.below q2)).mono ?_;rintro e w3 ⟨rfl,b3⟩;have q3:=q2.trans (b3.mono q2.size)))
      go_ret
      exact ⟨by rw [HB.out];first|done|rfl,q3⟩
   have hB:deedB d=nameB d.kind ++ (⟨#[32]⟩ ++ itoaB d.index) ++ (⟨#[32]⟩ ++ legB d.leg):=by
    unfold deedB
    rw [if_pos,if_pos h03]
    unfold ddIn
    rw [if_pos h03,hl]
    simp [inB];omega
   have hne:=legB_ne hl
   have z3:=(legB_size hl).2
   have hne2:(legB d.leg).toList.isEmpty=false:=by
    rw [Lib.toList_data]
    cases h:(legB d.leg).data.toList with
    | nil=>exact absurd (ByteArray.ext (Array.ext' (by simpa using h))) hne
    | cons _ _=>rfl
   obtain ⟨kd,ix,g⟩:=d
   obtain ⟨L,hL⟩:∃ L,L=legB g:=⟨_,rfl⟩
   rw [← hL] at i4 hB hne hne2 z3
   obtain ⟨x1,x2,x3,x4,x5⟩:=g
   simp only [Dd.val,Lg.val] at i1 i2 i3 i4 z1 z2 h4 hk hi h03 hB
   show Calls Tryz.prog 52 #[.agg #[.int .i64 kd,.int .i64 ix,.int .i64 x1,.int .i64 x2,.int .i64 x3,.int .i64 x4,.int .i64 x5]] w _
   have HB:=Lib.hid hB
   clear hB hf hk h4 hix hl hL
   rcases h03 with rfl|rfl
   all_goals
    go_enter Tryz.func52,Tryz.ntmps52
    go_wp2_with (first|(go_at_call 97;refine (i1 _).mono ?_;rintro e w1 ⟨rfl,b1⟩;have q1:Below w.heap.size w w1:=((Below.refl _ _).alloc (Nat.le_refl _) _).trans (b1.mono (by simp));obtain ⟨hc1,_hf1⟩:=bcell b1)|(go_at_call 96;refine (i2 _).mono ?_;rintro e w' ⟨rfl,rfl⟩)|(go_at_call 98;refine (isIndex_any _ _ _).mono ?_;rintro e w' ⟨rfl,rfl⟩)|(go_at_call 88;refine (i3 _ (hp.below q1)).mono ?_;rintro e w2 ⟨rfl,b2⟩;have q2:=q1.trans (b2.mono q1.size);obtain ⟨hc2,_hf2⟩:=bcell (b1.trans (b2.mono b1.size)))|(go_at_call 45;refine (i4 _ (hp.below q2)).mono ?_;rintro e w3 ⟨rfl,b3⟩;have q3:=q2.trans (b3.mono q2.size)))
    go_ret
    exact ⟨by rw [HB.out];first|done|rfl,q3⟩
 have hB:deedB d=if ddIn d then nameB d.kind ++ (⟨#[32]⟩ ++ itoaB d.index) else ⟨#[]⟩:=by
  unfold deedB
  rw [if_neg h03,if_pos (show d.kind<4 by omega)]
 have hin:ddIn d=true:=by
  unfold ddIn;unfold ddFits at hf
  rw [if_neg h03,if_pos (by omega)] at hf
  rw [if_neg h03,hf]
  simp [inB];omega
 rw [if_pos hin] at hB
 obtain ⟨kd,ix,⟨x1,x2,x3,x4,x5⟩⟩:=d
 simp only [Dd.val,Lg.val] at i1 i2 i3 i4 z1 z2 h4 hk hi h03 hB
 show Calls Tryz.prog 52 #[.agg #[.int .i64 kd,.int .i64 ix,.int .i64 x1,.int .i64 x2,.int .i64 x3,.int .i64 x4,.int .i64 x5]] w _
 have HB:=Lib.hid hB
 have hk':kd=1∨kd=2:=by omega
 clear hB hf hk h4 hix hin h03 i4
 rcases hk' with rfl|rfl
 all_goals
  go_enter Tryz.func52,Tryz.ntmps52
  go_wp2_with (first|(go_at_call 97;refine (i1 _).mono ?_;rintro e w1 ⟨rfl,b1⟩;have q1:Below w.heap.size w w1:=((Below.refl _ _).alloc (Nat.le_refl _) _).trans (b1.mono (by simp));obtain ⟨hc1,_hf1⟩:=bcell b1)|(go_at_call 96;refine (i2 _).mono ?_;rintro e w' ⟨rfl,rfl⟩)|(go_at_call 98;refine (isIndex_any _ _ _).mono ?_;rintro e w' ⟨rfl,rfl⟩)|(go_at_call 88;refine (i3 _ (hp.below q1)).mono ?_;rintro e w2 ⟨rfl,b2⟩;have q2:=q1.trans (b2.mono q1.size);obtain ⟨hc2,_hf2⟩:=bcell (b1.trans (b2.mono b1.size))))
  go_ret
  exact ⟨by rw [HB.out];first|done|rfl,q2⟩
end Go.Proofs.YthfoloefkfadlaaGreatDoor

namespace Go.Proofs.YthfoloefkfadlaaGreatDoor
open Go Go.RowKit Go.Sort

set_option maxHeartbeats 1000000 in
theorem sdeedText_any (d:Dd) (w:World) :
 Calls Tryz.prog 82 #[d.val] w fun e w'=>e=.returned (.string (deedB d))∧Below w.heap.size w w':=by
 have i1:=l7Deed_any d
 cases hf:ddIn d
 · have hB:deedB d=⟨#[]⟩:=by unfold deedB;rw [if_neg];rw [hf];decide
   rw [hf] at i1
   obtain ⟨kd,ix,⟨x1,x2,x3,x4,x5⟩⟩:=d
   simp only [Dd.val] at i1
   show Calls Tryz.prog 82 #[.agg #[.int .i64 kd,.int .i64 ix,.int .i64 x1,.int .i64 x2,.int .i64 x3,.int .i64 x4,.int .i64 x5]] w _
   have HB:=Lib.hid hB
   clear hB hf
   go_enter Tryz.func82,Tryz.ntmps82
   go_wp2_with (go_at_call 130;refine (i1 _).mono ?_;rintro e w1 ⟨rfl,b1⟩)
   go_ret
   exact ⟨by rw [HB.out];first|done|rfl,(by repeat (first|with_reducible assumption|with_reducible exact Below.refl _ _|refine Below.setCell ?_ qSo _|refine Below.alloc ?_ qSo _|with_reducible exact Below.trans (Below.refl _ _) b1|refine Below.trans ?_ (Below.mono b1 qSo)|refine below_drewN ?_ _|refine Below.drew ?_))⟩
 rw [hf] at i1
 have hf':=hf
 unfold ddIn at hf'
 simp only [Bool.and_eq_true,inB,decide_eq_true_eq] at hf'
 have hk:(0≤d.kind∧d.kind≤5)∧(0≤d.index∧d.index≤9):=by omega
 have hl:(d.kind=0∨d.kind=3)→legOk 6 d.leg=true:=fun h=>by have:=hf'.2;rwa [if_pos h] at this
 obtain ⟨hk1,hk2⟩:=hk
 have i2:=l7Name_any d.kind hk1
 have i3:=l1Num_any d.index (by omega) (by omega)
 have i4:=slegText_any d.leg
 have z1:=nameB_size d.kind
 have z2:=itoaB_size (n:=d.index) (by omega) (by omega)
 by_cases h4:4≤d.kind
 · have hB:deedB d=nameB d.kind:=by
    unfold deedB;rw [if_pos hf,if_neg (by omega),if_neg (by omega)]
   obtain ⟨kd,ix,⟨x1,x2,x3,x4,x5⟩⟩:=d
   simp only [Dd.val] at i1 i2 z1 h4 hk1
   show Calls Tryz.prog 82 #[.agg #[.int .i64 kd,.int .i64 ix,.int .i64 x1,.int .i64 x2,.int .i64 x3,.int .i64 x4,.int .i64 x5]] w _
   have HB:=Lib.hid hB
   have hk':kd=4∨kd=5:=by omega
   clear hB hf hf' h4 hk1 hl
   rcases hk' with rfl|rfl
   all_goals
    go_enter Tryz.func82,Tryz.ntmps82
    go_wp2_with (first|(go_at_call 130;refine (i1 _).mono ?_;rintro e w1 ⟨rfl,b1⟩;have q1:Below w.heap.size w w1:=((Below.refl _ _).alloc (Nat.le_refl _) _).trans (b1.mono (by simp));obtain ⟨hc1,_hf1⟩:=bcell b1)|(go_at_call 105;refine (i2 _).mono ?_;rintro e w2 ⟨rfl,b2⟩;have q2:=q1.trans (b2.mono q1.size);obtain ⟨hc2,_hf2⟩:=bcell (b1.trans (b2.mono b1.size))))
    go_ret
    exact ⟨by rw [HB.out];first|done|rfl,q2⟩
 by_cases h03:d.kind=0∨d.kind=3
 · have hB:deedB d=nameB d.kind ++ ⟨#[32]⟩ ++ itoaB d.index ++ ⟨#[32]⟩ ++ legB d.leg:=by
    unfold deedB;rw [if_pos hf,if_pos h03];simp only [ByteArray.append_assoc]
   have z3:=(legB_size (hl h03)).2
   obtain ⟨kd,ix,g⟩:=d
   obtain ⟨L,hL⟩:∃ L,L=legB g:=⟨_,rfl⟩
   simp only at hB i4 z3
   rw [← hL] at i4 hB z3
   obtain ⟨x1,x2,x3,x4,x5⟩:=g
   simp only [Dd.val,Lg.val] at i1 i2 i3 i4 z1 z2 h03 hB
   show Calls Tryz.prog 82 #[.agg #[.int .i64 kd,.int .i64 ix,.int .i64 x1,.int .i64 x2,.int .i64 x3,.int .i64 x4,.int .i64 x5]] w _
   have HB:=Lib.hid hB
   clear hB hf hf' h4 hk1 hk2 hl hL
   rcases h03 with rfl|rfl
   all_goals
    go_enter Tryz.func82,Tryz.ntmps82
    go_wp2_with (first|(go_at_call 130;refine (i1 _).mono ?_;rintro e w1 ⟨rfl,b1⟩;have q1:Below w.heap.size w w1:=((Below.refl _ _).alloc (Nat.le_refl _) _).trans (b1.mono (by simp));obtain ⟨hc1,_hf1⟩:=bcell b1)|(go_at_call 105;refine (i2 _).mono ?_;rintro e w2 ⟨rfl,b2⟩;have q2:=q1.trans (b2.mono q1.size);have r2:=b1.trans (b2.mono b1.size);obtain ⟨hc2,_hf2⟩:=bcell r2)|(go_at_call 81;refine (i3 _).mono ?_;rintro e w3 ⟨rfl,b3⟩;have q3:=q2.trans (b3.mono q2.size);have r3:=r2.trans (b3.mono r2.size);obtain ⟨hc3,_hf3⟩:=bcell r3)|(go_at_call 131;refine (i4 _).mono ?_;rintro e w4 ⟨rfl,b4⟩;have q4:=q3.trans (b4.mono q3.size)))
    go_ret
    exact ⟨by rw [HB.out];first|done|rfl,q4⟩
 have hB:deedB d=nameB d.kind ++ ⟨#[32]⟩ ++ itoaB d.index:=by
  unfold deedB;rw [if_pos hf,if_neg h03,if_pos (by omega)];simp only [ByteArray.append_assoc]
 obtain ⟨kd,ix,⟨x1,x2,x3,x4,x5⟩⟩:=d
 simp only [Dd.val] at i1 i2 i3 z1 z2 h03 hB h4 hk1
 show Calls Tryz.prog 82 #[.agg #[.int .i64 kd,.int .i64 ix,.int .i64 x1,.int .i64 x2,.int .i64 x3,.int .i64 x4,.int .i64 x5]] w _
 have HB:=Lib.hid hB
 have hk':kd=1∨kd=2:=by omega
 clear hB hf hf' h4 hk1 hk2 hl h03 i4
 rcases hk' with rfl|rfl
 all_goals
  go_enter Tryz.func82,Tryz.ntmps82
  go_wp2_with (first|(go_at_call 130;refine (i1 _).mono ?_;rintro e w1 ⟨rfl,b1⟩;have q1:Below w.heap.size w w1:=((Below.refl _ _).alloc (Nat.le_refl _) _).trans (b1.mono (by simp));obtain ⟨hc1,_hf1⟩:=bcell b1)|(go_at_call 105;refine (i2 _).mono ?_;rintro e w2 ⟨rfl,b2⟩;have q2:=q1.trans (b2.mono q1.size);have r2:=b1.trans (b2.mono b1.size);obtain ⟨hc2,_hf2⟩:=bcell r2)|(go_at_call 81;refine (i3 _).mono ?_;rintro e w3 ⟨rfl,b3⟩;have q3:=q2.trans (b3.mono q2.size);have r3:=r2.trans (b3.mono r2.size);obtain ⟨hc3,_hf3⟩:=bcell r3))
  go_ret
  exact ⟨by rw [HB.out];first|done|rfl,q3⟩

end Go.Proofs.YthfoloefkfadlaaGreatDoor

namespace Go.Proofs.YthfoloefkfadlaaGreatDoor
open Go Go.RowKit Go.Sort

def legsB (t:ByteArray):List Lg→ByteArray
 | []=>t
 | g :: l=>legsB (t ++ (⟨#[59]⟩ ++ legB g)) l
def surveyB (s:Sv):ByteArray:=if svOk s then legsB (itoaB s.st) s.legs else ⟨#[]⟩
theorem legsB_drop (t:ByteArray) {l:List Lg} {k:Nat} (h:k<l.length):legsB t (l.drop k)=legsB (t ++ (⟨#[59]⟩ ++ legB (nth l k))) (l.drop (k+1)):=by
 rw [drop_nth h];rfl
theorem legB_le (g:Lg):(legB g).size≤200:=by
 cases h:legOk 6 g
 · simp [legB,h,ByteArray.size]
 · exact (legB_size h).2

theorem surveyText_any (a:Option Addr) (c:Nat) (n:Int) (l:List Lg) (w:World) (hl:l.length≤1048576) (hs:Legs w a l) (hp:Pow w) :
 Calls Tryz.prog 51 #[.agg #[.int .i64 n,.slice a l.length c]] w fun e w'=>e=.returned (.string (surveyB ⟨n,l⟩))∧Below w.heap.size w w':=by
 have i1:=fun w h=>surveyValid_any a c n l w hl h
 cases hv:svOk ⟨n,l⟩
 · have HB:=Lib.hid (show surveyB ⟨n,l⟩=⟨#[]⟩ by simp [surveyB,hv])
   rw [hv] at i1
   go_enter Tryz.func51,Tryz.ntmps51
   go_wp2_with (go_at_call 74;refine (i1 _ (hs.below qBl)).mono ?_;rintro e w1 ⟨rfl,b1⟩)
   go_ret
   exact ⟨by rw [HB.out];first|done|rfl,((Below.refl _ _).alloc (Nat.le_refl _) _).trans (b1.mono (by simp))⟩
 have HB:=Lib.hid (show surveyB ⟨n,l⟩=legsB (itoaB n) l by simp [surveyB,hv])
 have hr:(1≤n∧n≤6)∧l.length≤9:=by
  simp [svOk] at hv;omega
 obtain ⟨hn,hl9⟩:=hr
 rw [hv] at i1
 have z1:=itoaB_size (n:=n) (by omega) (by omega)
 go_enter Tryz.func51,Tryz.ntmps51
 go_wp2_with fail
 refine (i1 _ (hs.below qBl)).mono ?_
 rintro e w1 ⟨rfl,b1⟩
 have q1:Below w.heap.size w w1:=((Below.refl _ _).alloc (Nat.le_refl _) _).trans (b1.mono (by simp))
 obtain ⟨hc1,_hf1⟩:=bcell b1
 go_wp2_with fail
 refine (itoa_any n (by omega) (by omega) _ (hp.below q1)).mono ?_
 rintro e w2 ⟨rfl,b2⟩
 have r2:=b1.trans (b2.mono b1.size)
 obtain ⟨hc2,_hf2⟩:=bcell r2
 clear i1 hv hc1 _hf1
 go_wp2_with fail
 clear hc2 _hf2
 go_loopw [3,15] (fun t i wr=>∃ (k:Nat) (u:ByteArray),k≤l.length∧t=.string u∧i=.int .i64 k∧Hid (legsB (itoaB n) l=legsB u (l.drop k))∧u.size≤21+201*k∧Below (w.heap.size+1) (w.alloc (.cells #[.int .i64 n,.slice a l.length c] 25)) wr) (fun _ i _=>l.length - (intOf i).toNat)
 case atStart=>exact ⟨0,itoaB n,by omega,rfl,rfl,rfl,by omega,by simpa using r2⟩
 case round =>
  obtain ⟨k,u,hk,rfl,rfl,HR,hu,hb⟩:=hrel
  have hz:w.heap.size<wr.heap.size:=by have:=hb.size;simp at this;omega
  have hbw:Below w.heap.size w wr:=((Below.refl w.heap.size w).alloc (Nat.le_refl _) _).trans (hb.mono (by omega))
  by_cases hlt:k<l.length
  · obtain ⟨b,off,rfl,hbz,e1,e2,e3,e4,e5⟩:=Legs.at (hs.below hbw) hlt
    clear hs
    have HD:=Lib.hid (legsB_drop u hlt)
    have i2:=legText_any (nth l k)
    have z2:=legB_le (nth l k)
    obtain ⟨L,hL⟩:∃ L,L=legB (nth l k):=⟨_,rfl⟩
    rw [← hL] at i2 HD z2
    simp only [Lg.val] at i2
    clear hL
    go_wp2_with (go_at_call 45;refine (i2 _ (hp.below (hbw.alloc (by omega) _))).mono ?_;rintro e w3 ⟨rfl,b3⟩)
    go_roundw
    case rel=>exact ⟨k+1,_,by omega,rfl,by go_num,by show _=_;rw [HR.out,HD.out],by simp only [ByteArray.size_append];have:(⟨#[59]⟩:ByteArray).size=1:=rfl;omega,(hb.alloc (by omega) _).trans (b3.mono (by simp;omega))⟩
    case measure=>simp [intOf];omega
  · go_wp2
    go_ret
    exact ⟨by rw [HB.out,HR.out,List.drop_eq_nil_of_le (by omega)];rfl,hbw⟩

theorem ssurveyText_any (a:Option Addr) (c:Nat) (n:Int) (l:List Lg) (w:World) (hl:l.length≤1048576) (hs:Legs w a l) :
 Calls Tryz.prog 109 #[.agg #[.int .i64 n,.slice a l.length c]] w fun e w'=>e=.returned (.string (surveyB ⟨n,l⟩))∧Below w.heap.size w w':=by
 have i1:=fun w h=>ssurveyValid_any a c n l w hl h
 cases hv:svOk ⟨n,l⟩
 · have HB:=Lib.hid (show surveyB ⟨n,l⟩=⟨#[]⟩ by simp [surveyB,hv])
   rw [hv] at i1
   go_enter Tryz.func109,Tryz.ntmps109
   go_wp2_with (go_at_call 42;refine (i1 _ (hs.below qBl)).mono ?_;rintro e w1 ⟨rfl,b1⟩)
   go_ret
   exact ⟨by rw [HB.out];first|done|rfl,((Below.refl _ _).alloc (Nat.le_refl _) _).trans (b1.mono (by simp))⟩
 have HB:=Lib.hid (show surveyB ⟨n,l⟩=legsB (itoaB n) l by simp [surveyB,hv])
 have hr:(1≤n∧n≤6)∧l.length≤9:=by
  simp [svOk] at hv;omega
 obtain ⟨hn,hl9⟩:=hr
 rw [hv] at i1
 have z1:=itoaB_size (n:=n) (by omega) (by omega)
 go_enter Tryz.func109,Tryz.ntmps109
 go_wp2_with fail
 refine (i1 _ (hs.below qBl)).mono ?_
 rintro e w1 ⟨rfl,b1⟩
 obtain ⟨hc1,_hf1⟩:=bcell b1
 go_wp2_with fail
 refine (l1Num_any n (by omega) (by omega) _).mono ?_
 rintro e w2 ⟨rfl,b2⟩
 have r2:=b1.trans (b2.mono b1.size)
 clear i1 hv hc1 _hf1
 go_wp2_with fail
 go_loopw [3,4] (fun t i wr=>∃ (k:Nat) (u:ByteArray),k≤l.length∧t=.string u∧i=.int .i64 k∧Hid (legsB (itoaB n) l=legsB u (l.drop k))∧u.size≤21+201*k∧Below (w.heap.size+1) (w.alloc (.cells #[.int .i64 n,.slice a l.length c] 25)) wr) (fun _ i _=>l.length - (intOf i).toNat)
 case atStart=>exact ⟨0,itoaB n,by omega,rfl,rfl,rfl,by omega,by simpa using r2⟩
 case round =>
  obtain ⟨k,u,hk,rfl,rfl,HR,hu,hb⟩:=hrel
  have hz:w.heap.size<wr.heap.size:=by have:=hb.size;simp at this;omega
  have hbw:Below w.heap.size w wr:=((Below.refl w.heap.size w).alloc (Nat.le_refl _) _).trans (hb.mono (by omega))
  have c1:wr.cell? ⟨w.heap.size,1,none⟩=some (.slice a l.length c):=by rw [hb.cell (p:=⟨w.heap.size,1,none⟩) (by simp)];simp
  by_cases hlt:k<l.length
  · obtain ⟨b,off,rfl,hbz,e1,e2,e3,e4,e5⟩:=Legs.at (hs.below hbw) hlt
    clear hs
    have HD:=Lib.hid (legsB_drop u hlt)
    have i2:=slegText_any (nth l k)
    have z2:=legB_le (nth l k)
    obtain ⟨L,hL⟩:∃ L,L=legB (nth l k):=⟨_,rfl⟩
    rw [← hL] at i2 HD z2
    simp only [Lg.val] at i2
    clear hL
    go_wp2_with (go_at_call 131;refine (i2 _).mono ?_;rintro e w3 ⟨rfl,b3⟩)
    go_roundw
    case rel=>exact ⟨k+1,_,by omega,rfl,by go_num,by show _=_;rw [HR.out,HD.out,← ByteArray.append_assoc],by simp only [ByteArray.size_append];have:(⟨#[59]⟩:ByteArray).size=1:=rfl;omega,hb.trans (b3.mono (by omega))⟩
    case measure=>simp [intOf];omega
  · go_wp2
    go_ret
    exact ⟨by rw [HB.out,HR.out,List.drop_eq_nil_of_le (by omega)];rfl,hbw⟩
end Go.Proofs.YthfoloefkfadlaaGreatDoor

namespace Go.Proofs.YthfoloefkfadlaaGreatDoor
open Go Go.RowKit Go.Sort

end Go.Proofs.YthfoloefkfadlaaGreatDoor

namespace Go.Proofs.YthfoloefkfadlaaGreatDoor
open Go Go.RowKit Go.Sort

end Go.Proofs.YthfoloefkfadlaaGreatDoor
