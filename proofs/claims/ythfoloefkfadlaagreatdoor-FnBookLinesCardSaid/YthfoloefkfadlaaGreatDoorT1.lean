/- Walks: texts of legs: strconv.Itoa, impl.wayText, impl.legWay, impl.LegText. -/
import Derived.Test.YthfoloefkfadlaaGreatDoorK2
import Derived.Test.YthfoloefkfadlaaGreatDoorShelf
import Derived.Lib.QuietBelow
import Derived.Lib.ItoaLen
import Derived.Lib.AppendIntMem
import Derived.Lib.ItoaMem
import Derived.Laws.IdiomStrings
import Derived.Test.YthfoloefkfadlaaGreatDoorK3
import Derived.StillTailTactics
import Derived.Deep.RegionHeld3
import Derived.Deep.DeepCutAuto
set_option linter.unusedSimpArgs false
set_option linter.unusedVariables false
namespace Go.Proofs.YthfoloefkfadlaaGreatDoor
open Go Go.RowKit Go.Sort
def Pow (w:World):Prop:=Lib.TabIs Tryz.prog w "internal/strconv.uint64pow10" .u64 Lib.pow10Tab
theorem Pow.below {w w':World} (h:Pow w) (hb:Below w.heap.size w w'):Pow w':=Lib.tabBelow_of_tabIs h w' hb
def itoaB (n:Int):ByteArray:=⟨(Lib.itoa n).toArray⟩
theorem zaag {n:Int} (h0 : -9223372036854775808≤n) (h1:n≤9223372036854775807):(itoaB n).size≤21:=by
 have:=Lib.itoa_length_le n h0 h1
 simpa [itoaB,ByteArray.size] using this
theorem zabu (n:Int) (h0 : -9223372036854775808≤n) (h1:n≤9223372036854775807) (w:World) (h:Pow w) :
 Calls Tryz.prog 88 #[.int .i64 n] w fun e w'=>e=.returned (.string (itoaB n))∧Below w.heap.size w w' :=
 (Tryz.strconv_Itoa n h0 h1 w h).mono fun e w' ⟨he,k,os,hw⟩=>⟨he,by
  subst hw
  exact ⟨rfl,rfl,rfl,by simp [grow,World.drewN],fun j hj=>by simp [grow,World.drewN,Array.getElem?_append,hj]⟩⟩
theorem zabs {f:FuncId} {args:Array Value} {w:World} {v:Value} (hp:Pow w)
 (h:∀ w,Pow w→Calls Tryz.prog f args w fun e w'=>e=.returned v∧Below w.heap.size w w') (d:Nat) (os:Array Obj) :
 Calls Tryz.prog f args (grow (redrawn w d) os) fun e w''=>e=.returned v∧∃ p:Regrown,w''=grow (redrawn w p.d) p.os :=
 Calls.regrown_of (h _ (hp.below (below_regrown w d os)))
def wayB (a b c:Int):ByteArray:=itoaB a ++ ⟨#[44]⟩ ++ itoaB b ++ ⟨#[44]⟩ ++ itoaB c
theorem zai9 (a b c:Int) (ha : -9223372036854775808≤a∧a≤9223372036854775807) (hb : -9223372036854775808≤b∧b≤9223372036854775807) (hc : -9223372036854775808≤c∧c≤9223372036854775807) (w:World) (hp:Pow w) :
 Calls Tryz.prog 89 #[.agg #[.int .i64 a,.int .i64 b,.int .i64 c]] w fun e w'=>e=.returned (.string (wayB a b c))∧Below w.heap.size w w':=by
 have s1:=zaag ha.1 ha.2;have s2:=zaag hb.1 hb.2;have s3:=zaag hc.1 hc.2
 go_enter Tryz.func89,Tryz.ntmps89
 go_wp2_with fail;obtain ⟨W,hW⟩:=qM (w.alloc (.cells #[.int .i64 a,.int .i64 b,.int .i64 c] 109))
 have bW:Below w.heap.size w W:=by rw [hW];exact qBl
 have c1:W.cell? ⟨w.heap.size,0,none⟩=some (.int .i64 a):=by rw [hW];simp
 have c2:W.cell? ⟨w.heap.size,1,none⟩=some (.int .i64 b):=by rw [hW];simp
 have c3:W.cell? ⟨w.heap.size,2,none⟩=some (.int .i64 c):=by rw [hW];simp
 rw [← hW];have pW:=hp.below bW;clear hW;have k1:=cell_regrown c1;have k2:=cell_regrown c2;have k3:=cell_regrown c3;have i1:=zabs pW (zabu a ha.1 ha.2);have i2:=zabs pW (zabu b hb.1 hb.2);have i3:=zabs pW (zabu c hc.1 hc.2);have n1:¬ 9223372036854775807<(itoaB a).size+1:=qO;have n2:¬ 9223372036854775807<(itoaB a).size+1+(itoaB b).size:=qO;have n3:¬ 9223372036854775807<(itoaB a).size+1+(itoaB b).size+1:=qO;have n4:¬ 9223372036854775807<(itoaB a).size+1+(itoaB b).size+1+(itoaB c).size:=qO;refine wp_region_quiet_below (by kernel_rfl) (by kernel_rfl) ?_
 repeat (quiet_step (first|with_reducible exact i1 _ _|with_reducible exact i2 _ _|with_reducible exact i3 _ _))
 refine wpQuiet_nil ?_;intro _ hw';obtain ⟨⟨dq,osq⟩,hw''⟩:=hw';have fin:Below w.heap.size w (grow (redrawn W dq) osq):=bW.trans ((below_regrown W dq osq).mono bW.size);subst hw'';generalize grow (redrawn W dq) osq=W2 at fin ⊢
 go_wp2
 go_ret
 exact ⟨by simp only [wayB];rfl,fin⟩
theorem zae5 (g:Lg) (w:World) :
 Calls Tryz.prog 90 #[g.val] w fun e w'=>e=.returned (.agg #[.int .i64 g.east,.int .i64 g.north,.int .i64 g.up])∧Below w.heap.size w w':=by
 obtain ⟨x1,x2,x3,x4,x5⟩:=g
 show Calls Tryz.prog 90 #[.agg #[.int .i64 x1,.int .i64 x2,.int .i64 x3,.int .i64 x4,.int .i64 x5]] w _
 go_enter Tryz.func90,Tryz.ntmps90
 go_wp2
 refine bodyPost_ret (v:=.agg #[.int .i64 x3,.int .i64 x4,.int .i64 x5]) (by simp [results,Tryz.results90,go_sem]) rfl ⟨rfl,qBl⟩
def legB (g:Lg):ByteArray:=if legOk 6 g then itoaB g.frm ++ ⟨#[62]⟩ ++ itoaB g.to ++ ⟨#[58]⟩ ++ wayB g.east g.north g.up else ⟨#[]⟩
theorem zadi (g:Lg) (w:World) (hp:Pow w) :
 Calls Tryz.prog 45 #[g.val] w fun e w'=>e=.returned (.string (legB g))∧Below w.heap.size w w':=by
 cases hv:legOk 6 g
 · have hB:legB g=⟨#[]⟩:=by simp [legB,hv]
   obtain ⟨x1,x2,x3,x4,x5⟩:=g
   show Calls Tryz.prog 45 #[.agg #[.int .i64 x1,.int .i64 x2,.int .i64 x3,.int .i64 x4,.int .i64 x5]] w _
   have HB:=Lib.hid hB;clear hB
   go_enter Tryz.func45,Tryz.ntmps45
   go_wp2_with (go_at_call 87;refine (zad1 6 ⟨x1,x2,x3,x4,x5⟩ _).mono ?_;rintro e w' ⟨rfl,hb⟩)
   go_ret
   exact ⟨by rw [HB.out];rfl,((Below.refl _ _).alloc (Nat.le_refl _) _).trans (hb.mono qP)⟩
 obtain ⟨hr1,hr2,hr3,hr4,hr5⟩:=zaaq qO hv
 have hB:legB g=itoaB g.frm ++ ⟨#[62]⟩ ++ itoaB g.to ++ ⟨#[58]⟩ ++ wayB g.east g.north g.up:=by simp [legB,hv]
 obtain ⟨x1,x2,x3,x4,x5⟩:=g;simp only at hr1 hr2 hr3 hr4 hr5 hB
 show Calls Tryz.prog 45 #[.agg #[.int .i64 x1,.int .i64 x2,.int .i64 x3,.int .i64 x4,.int .i64 x5]] w _
 have HB:=Lib.hid hB;clear hB;have s1:=zaag (n:=x1) qO qO;have s2:=zaag (n:=x2) qO qO;have s3:=zaag (n:=x3) qO qO;have s4:=zaag (n:=x4) qO qO;have s5:=zaag (n:=x5) qO qO
 have s6:(wayB x3 x4 x5).size≤65:=by unfold wayB;simp only [ByteArray.size_append];show _+1+_+1+_≤_;omega
 go_enter Tryz.func45,Tryz.ntmps45
 go_wp2_with (go_at_call 87;refine (zad1 6 ⟨x1,x2,x3,x4,x5⟩ _).mono ?_;rintro e W ⟨rfl,hb⟩)
 have bW:Below w.heap.size w W:=((Below.refl _ _).alloc (Nat.le_refl _) _).trans (hb.mono qP)
 have cc:=fun i=>hb.cell (p:=⟨w.heap.size,i,none⟩) qP
 have c1:W.cell? ⟨w.heap.size,0,none⟩=some (.int .i64 x1):=by rw [cc];simp
 have c2:W.cell? ⟨w.heap.size,1,none⟩=some (.int .i64 x2):=by rw [cc];simp
 have c3:W.cell? ⟨w.heap.size,2,none⟩=some (.int .i64 x3):=by rw [cc];simp
 have c4:W.cell? ⟨w.heap.size,3,none⟩=some (.int .i64 x4):=by rw [cc];simp
 have c5:W.cell? ⟨w.heap.size,4,none⟩=some (.int .i64 x5):=by rw [cc];simp
 have pW:=hp.below bW;clear cc hb;have k1:=cell_regrown c1;have k2:=cell_regrown c2;have k3:=cell_regrown c3;have k4:=cell_regrown c4;have k5:=cell_regrown c5;have i1:=zabs pW (zabu x1 qO qO);have i2:=zabs pW (zabu x2 qO qO)
 have i3:=zabs pW (fun w _=>zae5 ⟨x1,x2,x3,x4,x5⟩ w)
 have i4:=zabs pW (zai9 x3 x4 x5 qO qO qO);simp only [Lg.val] at i3;have n1:¬ 9223372036854775807<(itoaB x1).size+1:=qO;have n2:¬ 9223372036854775807<(itoaB x1).size+1+(itoaB x2).size:=qO;have n3:¬ 9223372036854775807<(itoaB x1).size+1+(itoaB x2).size+1:=qO;have n4:¬ 9223372036854775807<(itoaB x1).size+1+(itoaB x2).size+1+(wayB x3 x4 x5).size:=qO;refine wp_region_quiet_below (by kernel_rfl) (by kernel_rfl) ?_
 repeat (quiet_step (first|with_reducible exact i1 _ _|with_reducible exact i2 _ _|with_reducible exact i3 _ _|with_reducible exact i4 _ _))
 refine wpQuiet_nil ?_;intro _ hw';obtain ⟨⟨dq,osq⟩,hw''⟩:=hw';have fin:Below w.heap.size w (grow (redrawn W dq) osq):=bW.trans ((below_regrown W dq osq).mono bW.size);subst hw'';generalize grow (redrawn W dq) osq=W2 at fin ⊢
 go_wp2
 go_ret
 exact ⟨by rw [HB.out];rfl,fin⟩
set_option maxHeartbeats 800000
set_option maxRecDepth 100000
def decB (u:Nat):ByteArray:=⟨(Lib.decDigits u).toArray⟩
def dig (u:Nat):ByteArray:=⟨#[UInt8.ofNat (48+u)]⟩
theorem zama (w:World) (X u:Nat) (hu:u<10) (hc:w.cell? ⟨X,0,none⟩=some (.int .u8 (48+(u:Int)))) :
 (convert 22 9 (.slice (some ⟨X,0,none⟩) 1 1)).run Tryz.prog w=.ok (.string (dig u)) w:=by
 have h:=run_convert_bytes_back (P:=Tryz.prog) w 22 9 5 ⟨X,0,none⟩ 1 [UInt8.ofNat (48+u)] Tryz.underlying22 Tryz.underlying5 Tryz.underlying9 (fun j hj=>by
  have hj0:j=0:=by simpa using hj
  subst hj0;rw [Addr.add_lit,Nat.add_zero,hc]
  simp;omega)
 exact h
theorem zavn (u:Nat) (hu:u<10) (w:World) :
 Calls Tryz.prog 81 #[.int .i64 (u:Int)] w fun e w'=>e=.returned (.string (decB u))∧Below w.heap.size w w':=by
 have hd:decB u=dig u:=by unfold decB dig;rw [Lib.decDigits_one hu]
 have hw1:IntKind.i64.wrap ((48:Int)+u)=(48+u:Int):=by rw [IntKind.wrap_i64];omega
 have hn:¬ ((u:Int)<0):=qO;have hn2:((u:Int)<10):=qO;have kc:=zama (w.alloc (.cells #[.int .u8 (48+(u:Int))] 5)) w.heap.size u hu qP;have HD:=Lib.hid hd;clear hd
 go_enter Tryz.func81,Tryz.ntmps81
 go_wp2
 go_ret
 exact ⟨by rw [HD.out];rfl,qBl⟩
theorem zavo (u:Nat) (h:¬ u<10):decB u=decB (u / 10) ++ dig (u % 10):=by
 unfold decB dig;rw [Lib.decDigits,dif_neg h]
 apply ByteArray.ext
 simp
theorem zand (u:Nat) (h:u≤1000000000000000):(decB u).size≤21:=by
 have:=zaag (n:=(u:Int)) qO qO
 simpa [itoaB,decB,Lib.itoa_nonneg] using this
theorem zane (u:Nat) (hu:u≤1000000000000000):∀ (w:World),
 Calls Tryz.prog 81 #[.int .i64 (u:Int)] w fun e w'=>e=.returned (.string (decB u))∧Below w.heap.size w w':=by
 induction u using Nat.strongRecOn with
 | _ u ih =>
   intro w
   by_cases h1:u<10
   · exact zavn u h1 w
   obtain ⟨q,hq⟩:=qM (u / 10);obtain ⟨r,hr⟩:=qM (u % 10);have hd:=zavo u h1;have ih2:=ih (u / 10) qO qO;have hz:=zand (u / 10) qO;have hlt:u % 10<10:=Nat.mod_lt _ (by decide);have e1:(u:Int).tdiv 10=((u / 10:Nat):Int):=rfl;have e2:(u:Int).tmod 10=((u % 10:Nat):Int):=rfl;rw [← hq] at hd ih2 hz e1;rw [← hr] at hd hlt e2;have hs:(dig r).size=1:=rfl
   have hw1:IntKind.i64.wrap ((48:Int)+(r:Int))=(48+(r:Int):Int):=by rw [IntKind.wrap_i64];omega
   have hw2:IntKind.i64.wrap (q:Int)=(q:Int):=by rw [IntKind.wrap_i64];omega
   have hw3:IntKind.u8.wrap ((48:Int)+(r:Int))=(48+(r:Int):Int):=by rw [IntKind.wrap_u8];omega
   have hw4:IntKind.i64.wrap (r:Int)=(r:Int):=by rw [IntKind.wrap_i64];omega
   have hn:¬ ((u:Int)<0):=qO;have hn2:¬ ((u:Int)<10):=qO;have HD:=Lib.hid hd
   have k1:=fun (w':World)=>zama (w'.alloc (.cells #[.int .u8 (48+(r:Int))] 5)) w'.heap.size r hlt qP
   have k2:∀ w':World,(convert 22 9 (.slice (some ⟨w'.heap.size,0,none⟩) 1 1)).run Tryz.prog (w'.alloc (.cells #[.int .u8 (48+(r:Int))] 5)).drew=.ok (.string (dig r)) (w'.alloc (.cells #[.int .u8 (48+(r:Int))] 5)).drew:=fun w'=>k1 w'.drew
   clear hd ih hq hr
   go_enter Tryz.func81,Tryz.ntmps81
   go_wp2_with fail
   go_region_with (go_at_call 81;refine (ih2 _).mono ?_;rintro e w1 ⟨rfl,b1⟩;have kc:=b1.cell (p:=⟨w.heap.size,0,none⟩);simp at kc;have b2:Below w.heap.size w w1:=Below.trans (by repeat (first|exact Below.refl _ _|refine Below.drew ?_|refine Below.alloc ?_ qP _)) (b1.mono qP);clear b1;first|have kq:=zama w1 w.heap.size r hlt kc|skip)
   all_goals
    go_wp2
    go_ret
    exact ⟨by rw [HD.out];rfl,by first|exact b2|exact b2.alloc b2.size _⟩
theorem zavp (u:Nat) (h1:1≤u) (hu:u≤1000000000000000) (w:World) :
 Calls Tryz.prog 81 #[.int .i64 (-(u:Int))] w fun e w'=>e=.returned (.string (itoaB (-(u:Int))))∧Below w.heap.size w w':=by
 have hd:itoaB (-(u:Int))=(⟨#[45]⟩:ByteArray) ++ decB u:=by
  unfold itoaB decB;rw [Lib.itoa_neg u h1];apply ByteArray.ext;simp
 have hz:=zand u hu;have i1:=zane u hu;have hn:(-(u:Int)<0):=qO;have hne:¬ (-(u:Int)=(u:Int)):=qO
 have hw2:IntKind.i64.wrap (u:Int)=(u:Int):=by rw [IntKind.wrap_i64];omega
 have HD:=Lib.hid hd;clear hd
 go_enter Tryz.func81,Tryz.ntmps81
 go_wp2_with (go_at_call 81;refine (i1 _).mono ?_;rintro e w' ⟨rfl,hb⟩)
 go_ret
 exact ⟨by rw [HD.out];rfl,hb⟩
theorem zabd (n:Int) (h0 : -1000000000000000≤n) (h1:n≤1000000000000000) (w:World) :
 Calls Tryz.prog 81 #[.int .i64 n] w fun e w'=>e=.returned (.string (itoaB n))∧Below w.heap.size w w':=by
 by_cases h:n<0
 · have:=zavp n.natAbs qO qO w
   rwa [show -((n.natAbs:Nat):Int)=n by omega] at this
 · have:=zane n.toNat qO w
   rw [show ((n.toNat:Nat):Int)=n by omega] at this
   rwa [show decB n.toNat=itoaB n by unfold decB itoaB Lib.itoa;rw [if_neg h]] at this
theorem zafl (g:Lg) (w:World) :
 Calls Tryz.prog 131 #[g.val] w fun e w'=>e=.returned (.string (legB g))∧Below w.heap.size w w':=by
 cases hv:legOk 6 g
 · have hB:legB g=⟨#[]⟩:=by simp [legB,hv]
   obtain ⟨x1,x2,x3,x4,x5⟩:=g
   show Calls Tryz.prog 131 #[.agg #[.int .i64 x1,.int .i64 x2,.int .i64 x3,.int .i64 x4,.int .i64 x5]] w _
   have HB:=Lib.hid hB;clear hB
   go_enter Tryz.func131,Tryz.ntmps131
   go_wp2_with (go_at_call 84;refine (zabn 6 ⟨x1,x2,x3,x4,x5⟩ _).mono ?_;rintro e w' ⟨rfl,hb⟩)
   go_ret
   exact ⟨by rw [HB.out];rfl,((Below.refl _ _).alloc (Nat.le_refl _) _).trans (hb.mono qP)⟩
 obtain ⟨hr1,hr2,hr3,hr4,hr5⟩:=zaaq qO hv
 have hB:legB g=itoaB g.frm ++ ⟨#[62]⟩ ++ itoaB g.to ++ ⟨#[58]⟩ ++ itoaB g.east ++ ⟨#[44]⟩ ++ itoaB g.north ++ ⟨#[44]⟩ ++ itoaB g.up:=by
  simp [legB,hv,wayB,ByteArray.append_assoc]
 obtain ⟨x1,x2,x3,x4,x5⟩:=g;simp only at hr1 hr2 hr3 hr4 hr5 hB
 show Calls Tryz.prog 131 #[.agg #[.int .i64 x1,.int .i64 x2,.int .i64 x3,.int .i64 x4,.int .i64 x5]] w _
 have HB:=Lib.hid hB;clear hB;have s1:=zaag (n:=x1) qO qO;have s2:=zaag (n:=x2) qO qO;have s3:=zaag (n:=x3) qO qO;have s4:=zaag (n:=x4) qO qO;have s5:=zaag (n:=x5) qO qO
 go_enter Tryz.func131,Tryz.ntmps131
 go_wp2_with (go_at_call 84;refine (zabn 6 ⟨x1,x2,x3,x4,x5⟩ _).mono ?_;rintro e W ⟨rfl,hb⟩)
 have bW:Below w.heap.size w W:=((Below.refl _ _).alloc (Nat.le_refl _) _).trans (hb.mono qP)
 have cc:=fun i=>hb.cell (p:=⟨w.heap.size,i,none⟩) qP
 have c1:W.cell? ⟨w.heap.size,0,none⟩=some (.int .i64 x1):=by rw [cc];simp
 have c2:W.cell? ⟨w.heap.size,1,none⟩=some (.int .i64 x2):=by rw [cc];simp
 have c3:W.cell? ⟨w.heap.size,2,none⟩=some (.int .i64 x3):=by rw [cc];simp
 have c4:W.cell? ⟨w.heap.size,3,none⟩=some (.int .i64 x4):=by rw [cc];simp
 have c5:W.cell? ⟨w.heap.size,4,none⟩=some (.int .i64 x5):=by rw [cc];simp
 clear cc hb;have k1:=cell_regrown c1;have k2:=cell_regrown c2;have k3:=cell_regrown c3;have k4:=cell_regrown c4;have k5:=cell_regrown c5
 have i1:=fun d os=>Calls.regrown_of (zabd x1 qO qO (grow (redrawn W d) os))
 have i2:=fun d os=>Calls.regrown_of (zabd x2 qO qO (grow (redrawn W d) os))
 have i3:=fun d os=>Calls.regrown_of (zabd x3 qO qO (grow (redrawn W d) os))
 have i4:=fun d os=>Calls.regrown_of (zabd x4 qO qO (grow (redrawn W d) os))
 have i5:=fun d os=>Calls.regrown_of (zabd x5 qO qO (grow (redrawn W d) os))
 have n1:¬ 9223372036854775807<(itoaB x1).size+1:=qO;have n2:¬ 9223372036854775807<(itoaB x1).size+1+(itoaB x2).size:=qO;have n3:¬ 9223372036854775807<(itoaB x1).size+1+(itoaB x2).size+1:=qO;have n4:¬ 9223372036854775807<(itoaB x1).size+1+(itoaB x2).size+1+(itoaB x3).size:=qO;have n5:¬ 9223372036854775807<(itoaB x1).size+1+(itoaB x2).size+1+(itoaB x3).size+1:=qO;have n6:¬ 9223372036854775807<(itoaB x1).size+1+(itoaB x2).size+1+(itoaB x3).size+1+(itoaB x4).size:=qO;have n7:¬ 9223372036854775807<(itoaB x1).size+1+(itoaB x2).size+1+(itoaB x3).size+1+(itoaB x4).size+1:=qO;have n8:¬ 9223372036854775807<(itoaB x1).size+1+(itoaB x2).size+1+(itoaB x3).size+1+(itoaB x4).size+1+(itoaB x5).size:=qO;refine wp_region_quiet_below (by kernel_rfl) (by kernel_rfl) ?_
 repeat (quiet_step (first|with_reducible exact i1 _ _|with_reducible exact i2 _ _|with_reducible exact i3 _ _|with_reducible exact i4 _ _|with_reducible exact i5 _ _))
 refine wpQuiet_nil ?_;intro _ hw';obtain ⟨⟨dq,osq⟩,hw''⟩:=hw';have fin:Below w.heap.size w (grow (redrawn W dq) osq):=bW.trans ((below_regrown W dq osq).mono bW.size);subst hw'';generalize grow (redrawn W dq) osq=W2 at fin ⊢
 go_wp2
 go_ret
 exact ⟨by rw [HB.out];rfl,fin⟩
def nameB (k:Int):ByteArray:=if k=0 then ⟨#[112,117,116]⟩ else if k=1 then ⟨#[100,114,111,112]⟩ else if k=2 then ⟨#[116,117,114,110]⟩ else if k=3 then ⟨#[115,101,116]⟩ else if k=4 then ⟨#[109,111,114,101]⟩ else ⟨#[108,101,115,115]⟩
theorem zaib (k:Int) (h:0≤k∧k≤5) (w:World):Calls Tryz.prog 96 #[.int .i64 k] w fun e w'=>e=.returned (.string (nameB k))∧w=w':=by
 have hk:k=0∨k=1∨k=2∨k=3∨k=4∨k=5:=qO;clear h
 rcases hk with rfl|rfl|rfl|rfl|rfl|rfl
 all_goals
  go_enter Tryz.func96,Tryz.ntmps96
  go_wp2
  go_ret
  exact ⟨rfl,rfl⟩
theorem zala (k:Int) (h:0≤k∧k≤5) (w:World):Calls Tryz.prog 105 #[.int .i64 k] w fun e w'=>e=.returned (.string (nameB k))∧Below w.heap.size w w':=by
 have hk:k=0∨k=1∨k=2∨k=3∨k=4∨k=5:=qO;clear h
 rcases hk with rfl|rfl|rfl|rfl|rfl|rfl
 all_goals
  go_enter Tryz.func105,Tryz.ntmps105
  go_wp2
  go_ret
  exact ⟨rfl,qBl⟩
set_option maxHeartbeats 2000000
def deedB (d:Dd):ByteArray :=
 if ddIn d then (if d.kind=0∨d.kind=3 then nameB d.kind ++ (⟨#[32]⟩ ++ itoaB d.index) ++ (⟨#[32]⟩ ++ legB d.leg) else if d.kind<4 then nameB d.kind ++ (⟨#[32]⟩ ++ itoaB d.index) else nameB d.kind) else ⟨#[]⟩
theorem zag7 (k:Int):(nameB k).size≤4:=by
 unfold nameB
 repeat' (first|split|decide)
theorem zaf4 {g:Lg} (h:legOk 6 g=true):1≤(legB g).size∧(legB g).size≤200:=by
 obtain ⟨hr1,hr2,hr3,hr4,hr5⟩:=zaaq qO h;have s1:=zaag (n:=g.frm) qO qO;have s2:=zaag (n:=g.to) qO qO;have s3:=zaag (n:=g.east) qO qO;have s4:=zaag (n:=g.north) qO qO;have s5:=zaag (n:=g.up) qO qO;unfold legB wayB;rw [if_pos h];simp only [ByteArray.size_append];have a1:(⟨#[62]⟩:ByteArray).size=1:=rfl;have a2:(⟨#[58]⟩:ByteArray).size=1:=rfl;have a3:(⟨#[44]⟩:ByteArray).size=1:=rfl;rw [a1,a2,a3]
 omega
theorem zaye {g:Lg} (h:legOk 6 g=true):legB g≠⟨#[]⟩:=fun e=>by
 have:=(zaf4 h).1;rw [e] at this
 exact absurd this (by decide)
theorem zavq {d:Dd} (h:ddIn d=true):ddFits d=true:=by
 unfold ddIn at h;unfold ddFits;simp only [Bool.and_eq_true,Bool.or_eq_true,Bool.not_eq_true',decide_eq_true_eq,inB] at h;obtain ⟨⟨⟨⟨h1,h2⟩,h3⟩,h4⟩,h5⟩:=h
 by_cases a:d.kind=0∨d.kind=3
 · rw [if_pos a]
 rw [if_neg a] at h5 ⊢
 by_cases b:d.kind=1∨d.kind=2
 · rw [if_pos b];exact h5
 rw [if_neg b,if_pos qO]
 rcases h4 with h4|h4
 · simp at h4;omega
 · simp [h4] at h5 ⊢;exact h5
theorem zad6 (d:Dd) (w:World) (hp:Pow w) :
 Calls Tryz.prog 52 #[d.val] w fun e w'=>e=.returned (.string (deedB d))∧Below w.heap.size w w':=by
 cases hf:ddFits d
 · have hB:deedB d=⟨#[]⟩:=by unfold deedB;rw [if_neg];intro h;rw [zavq h] at hf;cases hf
   have i1:=zaaw d;rw [hf] at i1;obtain ⟨kd,ix,⟨x1,x2,x3,x4,x5⟩⟩:=d;simp only [Dd.val] at i1
   show Calls Tryz.prog 52 #[.agg #[.int .i64 kd,.int .i64 ix,.int .i64 x1,.int .i64 x2,.int .i64 x3,.int .i64 x4,.int .i64 x5]] w _
   have HB:=Lib.hid hB;clear hB hf
   go_enter Tryz.func52,Tryz.ntmps52
   go_wp2_with (go_at_call 97;refine (i1 _).mono ?_;rintro e w1 ⟨rfl,b1⟩)
   go_ret
   exact ⟨by rw [HB.out];first|done|rfl,(by repeat (first|with_reducible assumption|with_reducible exact Below.refl _ _|refine Below.setCell ?_ qSo _|refine Below.alloc ?_ qSo _|with_reducible exact Below.trans (Below.refl _ _) b1|refine Below.trans ?_ (Below.mono b1 qSo)|refine below_drewN ?_ _|refine Below.drew ?_))⟩
 have i1:=zaaw d;rw [hf] at i1
 have hk:d.kind=0∨d.kind=1∨d.kind=2∨d.kind=3∨d.kind=4∨d.kind=5:=by
  unfold ddFits at hf
  by_cases a:d.kind=0∨d.kind=3
  · omega
  rw [if_neg a] at hf
  by_cases b:d.kind=1∨d.kind=2
  · omega
  rw [if_neg b] at hf
  by_cases c:d.kind=4∨d.kind=5
  · omega
  rw [if_neg c] at hf;cases hf
 have i2:=zaib d.kind qO;have z1:=zag7 d.kind
 by_cases h4:4≤d.kind
 · have hB:deedB d=nameB d.kind:=by
    unfold deedB;rw [if_pos,if_neg qO,if_neg qO];unfold ddFits at hf;unfold ddIn;rw [if_neg qO,if_neg qO,if_pos qO] at hf;rw [if_neg qO]
    simp at hf
    simp [hf.1,hf.2,inB];omega
   obtain ⟨kd,ix,⟨x1,x2,x3,x4,x5⟩⟩:=d;simp only [Dd.val] at i1 i2 z1 h4 hk
   show Calls Tryz.prog 52 #[.agg #[.int .i64 kd,.int .i64 ix,.int .i64 x1,.int .i64 x2,.int .i64 x3,.int .i64 x4,.int .i64 x5]] w _
   have HB:=Lib.hid hB;have hk':kd=4∨kd=5:=qO;clear hB hf hk h4
   rcases hk' with rfl|rfl
   all_goals
    go_enter Tryz.func52,Tryz.ntmps52
    go_wp2_with (first|(go_at_call 97;refine (i1 _).mono ?_;rintro e w1 ⟨rfl,b1⟩;obtain ⟨hc,_hf⟩:=bcell b1)|(go_at_call 96;refine (i2 _).mono ?_;rintro e w' ⟨rfl,rfl⟩))
    go_ret
    exact ⟨by rw [HB.out];first|done|rfl,(by repeat (first|with_reducible assumption|with_reducible exact Below.refl _ _|refine Below.setCell ?_ qSo _|refine Below.alloc ?_ qSo _|with_reducible exact Below.trans (Below.refl _ _) b1|refine Below.trans ?_ (Below.mono b1 qSo)|refine below_drewN ?_ _|refine Below.drew ?_))⟩
 cases hi:isIdx d.index 10
 · have hB:deedB d=⟨#[]⟩:=by
    unfold deedB;rw [if_neg];intro h;unfold ddIn at h;simp only [Bool.and_eq_true,inB,decide_eq_true_eq] at h
    simp [isIdx] at hi
    omega
   obtain ⟨kd,ix,⟨x1,x2,x3,x4,x5⟩⟩:=d;simp only [Dd.val] at i1 i2 z1 h4 hk hi
   show Calls Tryz.prog 52 #[.agg #[.int .i64 kd,.int .i64 ix,.int .i64 x1,.int .i64 x2,.int .i64 x3,.int .i64 x4,.int .i64 x5]] w _
   have HB:=Lib.hid hB;have n4:kd<4:=qO;clear hB hf hk h4
   go_enter Tryz.func52,Tryz.ntmps52
   go_wp2_with (first|(go_at_call 97;refine (i1 _).mono ?_;rintro e w1 ⟨rfl,b1⟩;obtain ⟨hc,_hf⟩:=bcell b1)|(go_at_call 96;refine (i2 _).mono ?_;rintro e w' ⟨rfl,rfl⟩)|(go_at_call 98;refine (zaal _ _ _).mono ?_;rintro e w' ⟨rfl,rfl⟩))
   go_ret
   exact ⟨by rw [HB.out];first|done|rfl,(by repeat (first|with_reducible assumption|with_reducible exact Below.refl _ _|refine Below.setCell ?_ qSo _|refine Below.alloc ?_ qSo _|with_reducible exact Below.trans (Below.refl _ _) b1|refine Below.trans ?_ (Below.mono b1 qSo)|refine below_drewN ?_ _|refine Below.drew ?_))⟩
 have hix:0≤d.index∧d.index<10:=by simpa [isIdx] using hi
 have i3:=zabu d.index qO qO;have z2:=zaag (n:=d.index) qO qO;have i4:=zadi d.leg
 by_cases h03:d.kind=0∨d.kind=3
 · cases hl:legOk 6 d.leg
   · have hB:deedB d=⟨#[]⟩:=by
      unfold deedB;rw [if_neg];intro h;unfold ddIn at h;rw [if_pos h03,hl] at h
      simp at h
     have hL:legB d.leg=⟨#[]⟩:=by simp [legB,hl]
     rw [hL] at i4;obtain ⟨kd,ix,⟨x1,x2,x3,x4,x5⟩⟩:=d;simp only [Dd.val,Lg.val] at i1 i2 i3 i4 z1 z2 h4 hk hi h03
     show Calls Tryz.prog 52 #[.agg #[.int .i64 kd,.int .i64 ix,.int .i64 x1,.int .i64 x2,.int .i64 x3,.int .i64 x4,.int .i64 x5]] w _
     have HB:=Lib.hid hB;clear hB hf hk h4 hix hl hL
     rcases h03 with rfl|rfl
     all_goals
      go_enter Tryz.func52,Tryz.ntmps52
      go_wp2_with (first|(go_at_call 97;refine (i1 _).mono ?_;rintro e w1 ⟨rfl,b1⟩;have q1:Below w.heap.size w w1:=((Below.refl _ _).alloc (Nat.le_refl _) _).trans (b1.mono qP);obtain ⟨hc1,_hf1⟩:=bcell b1)|(go_at_call 96;refine (i2 _).mono ?_;rintro e w' ⟨rfl,rfl⟩)|(go_at_call 98;refine (zaal _ _ _).mono ?_;rintro e w' ⟨rfl,rfl⟩)|(go_at_call 88;refine (i3 _ (hp.below q1)).mono ?_;rintro e w2 ⟨rfl,b2⟩;have q2:=q1.trans (b2.mono q1.size);obtain ⟨hc2,_hf2⟩:=bcell (b1.trans (b2.mono b1.size)))|(go_at_call 45;refine (i4 _ (hp.below q2)).mono ?_;rintro e w3 ⟨rfl,b3⟩;have q3:=q2.trans (b3.mono q2.size)))
      go_ret
      exact ⟨by rw [HB.out];first|done|rfl,q3⟩
   have hB:deedB d=nameB d.kind ++ (⟨#[32]⟩ ++ itoaB d.index) ++ (⟨#[32]⟩ ++ legB d.leg):=by
    unfold deedB;rw [if_pos,if_pos h03];unfold ddIn;rw [if_pos h03,hl]
    simp [inB];omega
   have hne:=zaye hl;have z3:=(zaf4 hl).2
   have hne2:(legB d.leg).toList.isEmpty=false:=by
    rw [Lib.toList_data]
    cases h:(legB d.leg).data.toList with
    | nil=>exact absurd (ByteArray.ext (Array.ext' (by simpa using h))) hne
    | cons _ _=>rfl
   obtain ⟨kd,ix,g⟩:=d;obtain ⟨L,hL⟩:=qM (legB g);rw [← hL] at i4 hB hne hne2 z3;obtain ⟨x1,x2,x3,x4,x5⟩:=g;simp only [Dd.val,Lg.val] at i1 i2 i3 i4 z1 z2 h4 hk hi h03 hB
   show Calls Tryz.prog 52 #[.agg #[.int .i64 kd,.int .i64 ix,.int .i64 x1,.int .i64 x2,.int .i64 x3,.int .i64 x4,.int .i64 x5]] w _
   have HB:=Lib.hid hB;clear hB hf hk h4 hix hl hL
   rcases h03 with rfl|rfl
   all_goals
    go_enter Tryz.func52,Tryz.ntmps52
    go_wp2_with (first|(go_at_call 97;refine (i1 _).mono ?_;rintro e w1 ⟨rfl,b1⟩;have q1:Below w.heap.size w w1:=((Below.refl _ _).alloc (Nat.le_refl _) _).trans (b1.mono qP);obtain ⟨hc1,_hf1⟩:=bcell b1)|(go_at_call 96;refine (i2 _).mono ?_;rintro e w' ⟨rfl,rfl⟩)|(go_at_call 98;refine (zaal _ _ _).mono ?_;rintro e w' ⟨rfl,rfl⟩)|(go_at_call 88;refine (i3 _ (hp.below q1)).mono ?_;rintro e w2 ⟨rfl,b2⟩;have q2:=q1.trans (b2.mono q1.size);obtain ⟨hc2,_hf2⟩:=bcell (b1.trans (b2.mono b1.size)))|(go_at_call 45;refine (i4 _ (hp.below q2)).mono ?_;rintro e w3 ⟨rfl,b3⟩;have q3:=q2.trans (b3.mono q2.size)))
    go_ret
    exact ⟨by rw [HB.out];first|done|rfl,q3⟩
 have hB:deedB d=if ddIn d then nameB d.kind ++ (⟨#[32]⟩ ++ itoaB d.index) else ⟨#[]⟩:=by
  unfold deedB;rw [if_neg h03,if_pos (show d.kind<4 by omega)]
 have hin:ddIn d=true:=by
  unfold ddIn;unfold ddFits at hf;rw [if_neg h03,if_pos qO] at hf;rw [if_neg h03,hf]
  simp [inB];omega
 rw [if_pos hin] at hB;obtain ⟨kd,ix,⟨x1,x2,x3,x4,x5⟩⟩:=d;simp only [Dd.val,Lg.val] at i1 i2 i3 i4 z1 z2 h4 hk hi h03 hB
 show Calls Tryz.prog 52 #[.agg #[.int .i64 kd,.int .i64 ix,.int .i64 x1,.int .i64 x2,.int .i64 x3,.int .i64 x4,.int .i64 x5]] w _
 have HB:=Lib.hid hB;have hk':kd=1∨kd=2:=qO;clear hB hf hk h4 hix hin h03 i4
 rcases hk' with rfl|rfl
 all_goals
  go_enter Tryz.func52,Tryz.ntmps52
  go_wp2_with (first|(go_at_call 97;refine (i1 _).mono ?_;rintro e w1 ⟨rfl,b1⟩;have q1:Below w.heap.size w w1:=((Below.refl _ _).alloc (Nat.le_refl _) _).trans (b1.mono qP);obtain ⟨hc1,_hf1⟩:=bcell b1)|(go_at_call 96;refine (i2 _).mono ?_;rintro e w' ⟨rfl,rfl⟩)|(go_at_call 98;refine (zaal _ _ _).mono ?_;rintro e w' ⟨rfl,rfl⟩)|(go_at_call 88;refine (i3 _ (hp.below q1)).mono ?_;rintro e w2 ⟨rfl,b2⟩;have q2:=q1.trans (b2.mono q1.size);obtain ⟨hc2,_hf2⟩:=bcell (b1.trans (b2.mono b1.size))))
  go_ret
  exact ⟨by rw [HB.out];first|done|rfl,q2⟩
set_option maxHeartbeats 1000000
theorem zadk (d:Dd) (w:World) :
 Calls Tryz.prog 82 #[d.val] w fun e w'=>e=.returned (.string (deedB d))∧Below w.heap.size w w':=by
 have i1:=zaa5 d
 cases hf:ddIn d
 · have hB:deedB d=⟨#[]⟩:=by unfold deedB;rw [if_neg];rw [hf];decide
   rw [hf] at i1;obtain ⟨kd,ix,⟨x1,x2,x3,x4,x5⟩⟩:=d;simp only [Dd.val] at i1
   show Calls Tryz.prog 82 #[.agg #[.int .i64 kd,.int .i64 ix,.int .i64 x1,.int .i64 x2,.int .i64 x3,.int .i64 x4,.int .i64 x5]] w _
   have HB:=Lib.hid hB;clear hB hf
   go_enter Tryz.func82,Tryz.ntmps82
   go_wp2_with (go_at_call 130;refine (i1 _).mono ?_;rintro e w1 ⟨rfl,b1⟩)
   go_ret
   exact ⟨by rw [HB.out];first|done|rfl,(by repeat (first|with_reducible assumption|with_reducible exact Below.refl _ _|refine Below.setCell ?_ qSo _|refine Below.alloc ?_ qSo _|with_reducible exact Below.trans (Below.refl _ _) b1|refine Below.trans ?_ (Below.mono b1 qSo)|refine below_drewN ?_ _|refine Below.drew ?_))⟩
 rw [hf] at i1;have hf':=hf;unfold ddIn at hf';simp only [Bool.and_eq_true,inB,decide_eq_true_eq] at hf';have hk:(0≤d.kind∧d.kind≤5)∧(0≤d.index∧d.index≤9):=qO
 have hl:(d.kind=0∨d.kind=3)→legOk 6 d.leg=true:=fun h=>by have:=hf'.2;rwa [if_pos h] at this
 obtain ⟨hk1,hk2⟩:=hk;have i2:=zala d.kind hk1;have i3:=zabd d.index qO qO;have i4:=zafl d.leg;have z1:=zag7 d.kind;have z2:=zaag (n:=d.index) qO qO
 by_cases h4:4≤d.kind
 · have hB:deedB d=nameB d.kind:=by
    unfold deedB;rw [if_pos hf,if_neg qO,if_neg qO]
   obtain ⟨kd,ix,⟨x1,x2,x3,x4,x5⟩⟩:=d;simp only [Dd.val] at i1 i2 z1 h4 hk1
   show Calls Tryz.prog 82 #[.agg #[.int .i64 kd,.int .i64 ix,.int .i64 x1,.int .i64 x2,.int .i64 x3,.int .i64 x4,.int .i64 x5]] w _
   have HB:=Lib.hid hB;have hk':kd=4∨kd=5:=qO;clear hB hf hf' h4 hk1 hl
   rcases hk' with rfl|rfl
   all_goals
    go_enter Tryz.func82,Tryz.ntmps82
    go_wp2_with (first|(go_at_call 130;refine (i1 _).mono ?_;rintro e w1 ⟨rfl,b1⟩;have q1:Below w.heap.size w w1:=((Below.refl _ _).alloc (Nat.le_refl _) _).trans (b1.mono qP);obtain ⟨hc1,_hf1⟩:=bcell b1)|(go_at_call 105;refine (i2 _).mono ?_;rintro e w2 ⟨rfl,b2⟩;have q2:=q1.trans (b2.mono q1.size);obtain ⟨hc2,_hf2⟩:=bcell (b1.trans (b2.mono b1.size))))
    go_ret
    exact ⟨by rw [HB.out];first|done|rfl,q2⟩
 by_cases h03:d.kind=0∨d.kind=3
 · have hB:deedB d=nameB d.kind ++ ⟨#[32]⟩ ++ itoaB d.index ++ ⟨#[32]⟩ ++ legB d.leg:=by
    unfold deedB;rw [if_pos hf,if_pos h03];simp only [ByteArray.append_assoc]
   have z3:=(zaf4 (hl h03)).2;obtain ⟨kd,ix,g⟩:=d;obtain ⟨L,hL⟩:=qM (legB g);simp only at hB i4 z3;rw [← hL] at i4 hB z3;obtain ⟨x1,x2,x3,x4,x5⟩:=g;simp only [Dd.val,Lg.val] at i1 i2 i3 i4 z1 z2 h03 hB
   show Calls Tryz.prog 82 #[.agg #[.int .i64 kd,.int .i64 ix,.int .i64 x1,.int .i64 x2,.int .i64 x3,.int .i64 x4,.int .i64 x5]] w _
   have HB:=Lib.hid hB;clear hB hf hf' h4 hk1 hk2 hl hL
   rcases h03 with rfl|rfl
   all_goals
    go_enter Tryz.func82,Tryz.ntmps82
    go_wp2_with (first|(go_at_call 130;refine (i1 _).mono ?_;rintro e w1 ⟨rfl,b1⟩;have q1:Below w.heap.size w w1:=((Below.refl _ _).alloc (Nat.le_refl _) _).trans (b1.mono qP);obtain ⟨hc1,_hf1⟩:=bcell b1)|(go_at_call 105;refine (i2 _).mono ?_;rintro e w2 ⟨rfl,b2⟩;have q2:=q1.trans (b2.mono q1.size);have r2:=b1.trans (b2.mono b1.size);obtain ⟨hc2,_hf2⟩:=bcell r2)|(go_at_call 81;refine (i3 _).mono ?_;rintro e w3 ⟨rfl,b3⟩;have q3:=q2.trans (b3.mono q2.size);have r3:=r2.trans (b3.mono r2.size);obtain ⟨hc3,_hf3⟩:=bcell r3)|(go_at_call 131;refine (i4 _).mono ?_;rintro e w4 ⟨rfl,b4⟩;have q4:=q3.trans (b4.mono q3.size)))
    go_ret
    exact ⟨by rw [HB.out];first|done|rfl,q4⟩
 have hB:deedB d=nameB d.kind ++ ⟨#[32]⟩ ++ itoaB d.index:=by
  unfold deedB;rw [if_pos hf,if_neg h03,if_pos qO];simp only [ByteArray.append_assoc]
 obtain ⟨kd,ix,⟨x1,x2,x3,x4,x5⟩⟩:=d;simp only [Dd.val] at i1 i2 i3 z1 z2 h03 hB h4 hk1
 show Calls Tryz.prog 82 #[.agg #[.int .i64 kd,.int .i64 ix,.int .i64 x1,.int .i64 x2,.int .i64 x3,.int .i64 x4,.int .i64 x5]] w _
 have HB:=Lib.hid hB;have hk':kd=1∨kd=2:=qO;clear hB hf hf' h4 hk1 hk2 hl h03 i4
 rcases hk' with rfl|rfl
 all_goals
  go_enter Tryz.func82,Tryz.ntmps82
  go_wp2_with (first|(go_at_call 130;refine (i1 _).mono ?_;rintro e w1 ⟨rfl,b1⟩;have q1:Below w.heap.size w w1:=((Below.refl _ _).alloc (Nat.le_refl _) _).trans (b1.mono qP);obtain ⟨hc1,_hf1⟩:=bcell b1)|(go_at_call 105;refine (i2 _).mono ?_;rintro e w2 ⟨rfl,b2⟩;have q2:=q1.trans (b2.mono q1.size);have r2:=b1.trans (b2.mono b1.size);obtain ⟨hc2,_hf2⟩:=bcell r2)|(go_at_call 81;refine (i3 _).mono ?_;rintro e w3 ⟨rfl,b3⟩;have q3:=q2.trans (b3.mono q2.size);have r3:=r2.trans (b3.mono r2.size);obtain ⟨hc3,_hf3⟩:=bcell r3))
  go_ret
  exact ⟨by rw [HB.out];first|done|rfl,q3⟩
def legsB (t:ByteArray):List Lg→ByteArray
 | []=>t
 | g :: l=>legsB (t ++ (⟨#[59]⟩ ++ legB g)) l
def surveyB (s:Sv):ByteArray:=if svOk s then legsB (itoaB s.st) s.legs else ⟨#[]⟩
theorem zalb (t:ByteArray) {l:List Lg} {k:Nat} (h:k<l.length):legsB t (l.drop k)=legsB (t ++ (⟨#[59]⟩ ++ legB (nth l k))) (l.drop (k+1)):=by
 rw [zab3 h];rfl
theorem zaih (g:Lg):(legB g).size≤200:=by
 cases h:legOk 6 g
 · simp [legB,h,ByteArray.size]
 · exact (zaf4 h).2
theorem zaeh (a:Option Addr) (c:Nat) (n:Int) (l:List Lg) (w:World) (hl:l.length≤1048576) (hs:Legs w a l) (hp:Pow w) :
 Calls Tryz.prog 51 #[.agg #[.int .i64 n,.slice a l.length c]] w fun e w'=>e=.returned (.string (surveyB ⟨n,l⟩))∧Below w.heap.size w w':=by
 have i1:=fun w h=>zaab a c n l w hl h
 cases hv:svOk ⟨n,l⟩
 · have HB:=Lib.hid (show surveyB ⟨n,l⟩=⟨#[]⟩ by simp [surveyB,hv])
   rw [hv] at i1
   go_enter Tryz.func51,Tryz.ntmps51
   go_wp2_with (go_at_call 74;refine (i1 _ (hs.below qBl)).mono ?_;rintro e w1 ⟨rfl,b1⟩)
   go_ret
   exact ⟨by rw [HB.out];first|done|rfl,((Below.refl _ _).alloc (Nat.le_refl _) _).trans (b1.mono qP)⟩
 have HB:=Lib.hid (show surveyB ⟨n,l⟩=legsB (itoaB n) l by simp [surveyB,hv])
 have hr:(1≤n∧n≤6)∧l.length≤9:=by
  simp [svOk] at hv;omega
 obtain ⟨hn,hl9⟩:=hr;rw [hv] at i1;have z1:=zaag (n:=n) qO qO
 go_enter Tryz.func51,Tryz.ntmps51
 go_wp2_with fail;refine (i1 _ (hs.below qBl)).mono ?_;rintro e w1 ⟨rfl,b1⟩;have q1:Below w.heap.size w w1:=((Below.refl _ _).alloc (Nat.le_refl _) _).trans (b1.mono qP);obtain ⟨hc1,_hf1⟩:=bcell b1;go_wp2_with fail;refine (zabu n qO qO _ (hp.below q1)).mono ?_;rintro e w2 ⟨rfl,b2⟩;have r2:=b1.trans (b2.mono b1.size);obtain ⟨hc2,_hf2⟩:=bcell r2;clear i1 hv hc1 _hf1;go_wp2_with fail;clear hc2 _hf2
 go_loopw [3,15] (fun t i wr=>∃ (k:Nat) (u:ByteArray),k≤l.length∧t=.string u∧i=.int .i64 k∧Hid (legsB (itoaB n) l=legsB u (l.drop k))∧u.size≤21+201*k∧Below (w.heap.size+1) (w.alloc (.cells #[.int .i64 n,.slice a l.length c] 25)) wr) (fun _ i _=>l.length - (intOf i).toNat)
 case atStart=>exact ⟨0,itoaB n,by omega,rfl,rfl,rfl,by omega,by simpa using r2⟩
 case round =>
  obtain ⟨k,u,hk,rfl,rfl,HR,hu,hb⟩:=hrel
  have hz:w.heap.size<wr.heap.size:=by have:=hb.size;simp at this;omega
  have hbw:Below w.heap.size w wr:=((Below.refl w.heap.size w).alloc (Nat.le_refl _) _).trans (hb.mono qO)
  by_cases hlt:k<l.length
  · obtain ⟨b,off,rfl,hbz,e1,e2,e3,e4,e5⟩:=Legs.at (hs.below hbw) hlt
    clear hs;have HD:=Lib.hid (zalb u hlt);have i2:=zadi (nth l k);have z2:=zaih (nth l k);obtain ⟨L,hL⟩:=qM (legB (nth l k));rw [← hL] at i2 HD z2;simp only [Lg.val] at i2;clear hL
    go_wp2_with (go_at_call 45;refine (i2 _ (hp.below (hbw.alloc qO _))).mono ?_;rintro e w3 ⟨rfl,b3⟩)
    go_roundw
    case rel=>exact ⟨k+1,_,by omega,rfl,by go_num,by show _=_;rw [HR.out,HD.out],by simp only [ByteArray.size_append];have:(⟨#[59]⟩:ByteArray).size=1:=rfl;omega,(hb.alloc qO _).trans (b3.mono (by simp;omega))⟩
    case measure=>simp [intOf];omega
  · go_wp2
    go_ret
    exact ⟨by rw [HB.out,HR.out,List.drop_eq_nil_of_le qO];rfl,hbw⟩
theorem zalc (a:Option Addr) (c:Nat) (n:Int) (l:List Lg) (w:World) (hl:l.length≤1048576) (hs:Legs w a l) :
 Calls Tryz.prog 109 #[.agg #[.int .i64 n,.slice a l.length c]] w fun e w'=>e=.returned (.string (surveyB ⟨n,l⟩))∧Below w.heap.size w w':=by
 have i1:=fun w h=>zaaa a c n l w hl h
 cases hv:svOk ⟨n,l⟩
 · have HB:=Lib.hid (show surveyB ⟨n,l⟩=⟨#[]⟩ by simp [surveyB,hv])
   rw [hv] at i1
   go_enter Tryz.func109,Tryz.ntmps109
   go_wp2_with (go_at_call 42;refine (i1 _ (hs.below qBl)).mono ?_;rintro e w1 ⟨rfl,b1⟩)
   go_ret
   exact ⟨by rw [HB.out];first|done|rfl,((Below.refl _ _).alloc (Nat.le_refl _) _).trans (b1.mono qP)⟩
 have HB:=Lib.hid (show surveyB ⟨n,l⟩=legsB (itoaB n) l by simp [surveyB,hv])
 have hr:(1≤n∧n≤6)∧l.length≤9:=by
  simp [svOk] at hv;omega
 obtain ⟨hn,hl9⟩:=hr;rw [hv] at i1;have z1:=zaag (n:=n) qO qO
 go_enter Tryz.func109,Tryz.ntmps109
 go_wp2_with fail;refine (i1 _ (hs.below qBl)).mono ?_;rintro e w1 ⟨rfl,b1⟩;obtain ⟨hc1,_hf1⟩:=bcell b1;go_wp2_with fail;refine (zabd n qO qO _).mono ?_;rintro e w2 ⟨rfl,b2⟩;have r2:=b1.trans (b2.mono b1.size);clear i1 hv hc1 _hf1;go_wp2_with fail
 go_loopw [3,4] (fun t i wr=>∃ (k:Nat) (u:ByteArray),k≤l.length∧t=.string u∧i=.int .i64 k∧Hid (legsB (itoaB n) l=legsB u (l.drop k))∧u.size≤21+201*k∧Below (w.heap.size+1) (w.alloc (.cells #[.int .i64 n,.slice a l.length c] 25)) wr) (fun _ i _=>l.length - (intOf i).toNat)
 case atStart=>exact ⟨0,itoaB n,by omega,rfl,rfl,rfl,by omega,by simpa using r2⟩
 case round =>
  obtain ⟨k,u,hk,rfl,rfl,HR,hu,hb⟩:=hrel
  have hz:w.heap.size<wr.heap.size:=by have:=hb.size;simp at this;omega
  have hbw:Below w.heap.size w wr:=((Below.refl w.heap.size w).alloc (Nat.le_refl _) _).trans (hb.mono qO)
  have c1:wr.cell? ⟨w.heap.size,1,none⟩=some (.slice a l.length c):=by rw [hb.cell (p:=⟨w.heap.size,1,none⟩) qP];simp
  by_cases hlt:k<l.length
  · obtain ⟨b,off,rfl,hbz,e1,e2,e3,e4,e5⟩:=Legs.at (hs.below hbw) hlt
    clear hs;have HD:=Lib.hid (zalb u hlt);have i2:=zafl (nth l k);have z2:=zaih (nth l k);obtain ⟨L,hL⟩:=qM (legB (nth l k));rw [← hL] at i2 HD z2;simp only [Lg.val] at i2;clear hL
    go_wp2_with (go_at_call 131;refine (i2 _).mono ?_;rintro e w3 ⟨rfl,b3⟩)
    go_roundw
    case rel=>exact ⟨k+1,_,by omega,rfl,by go_num,by show _=_;rw [HR.out,HD.out,← ByteArray.append_assoc],by simp only [ByteArray.size_append];have:(⟨#[59]⟩:ByteArray).size=1:=rfl;omega,hb.trans (b3.mono qO)⟩
    case measure=>simp [intOf];omega
  · go_wp2
    go_ret
    exact ⟨by rw [HB.out,HR.out,List.drop_eq_nil_of_le qO];rfl,hbw⟩
theorem zaqm:∀ (l:List Lg) (t:ByteArray),(legsB t l).size≤t.size+201*l.length
 | [],t=>by simp [legsB]
 | g :: l,t=>by
   have h:=zaqm l (t ++ (⟨#[59]⟩ ++ legB g));have h2:=zaih g;have h3:(⟨#[59]⟩:ByteArray).size=1:=rfl;simp only [legsB,List.length_cons];simp only [ByteArray.size_append] at h
   omega
theorem zald {n:Int} {l:List Lg} (h:svOk ⟨n,l⟩=true):(surveyB ⟨n,l⟩).size≤2000:=by
 have hr:(1≤n∧n≤6)∧l.length≤9:=by
  simp [svOk] at h;omega
 have h1:=zaqm l (itoaB n);have h2:=zaag (n:=n) qO qO;unfold surveyB;rw [if_pos h]
 show (legsB (itoaB n) l).size≤_
 omega
theorem zajw (d:Dd):(deedB d).size≤300:=by
 have h1:=zag7 d.kind;have h3:=zaih d.leg;have h4:(⟨#[32]⟩:ByteArray).size=1:=rfl;unfold deedB
 by_cases h:ddIn d=true
 · have h2:=zaag (n:=d.index) (by
    unfold ddIn at h;simp only [Bool.and_eq_true,inB,decide_eq_true_eq] at h;omega) (by
    unfold ddIn at h;simp only [Bool.and_eq_true,inB,decide_eq_true_eq] at h;omega)
   rw [if_pos h]
   split
   · simp only [ByteArray.size_append];omega
   · split
     · simp only [ByteArray.size_append];omega
     · omega
 · rw [if_neg h];decide
theorem zah4 {α:Type} [Inhabited α] {xs ys:List α} {k:Nat} (h1:k<xs.length) (h2:k<ys.length) (h:xs.take k=ys.take k) (hx:nth xs k=nth ys k):xs.take (k+1)=ys.take (k+1):=by
 rw [zabc h1,zabc h2,h,hx]
theorem sv_eq (s t:Int) (l m:List Lg):((⟨s,l⟩:Sv)=⟨t,m⟩)=(s=t∧l=m):=qP
theorem zafj {p:Prop} [Decidable p] (h:¬ p):decide p=false:=decide_eq_false h
theorem zadc {p:Prop} [Decidable p] (h:p):decide p=true:=decide_eq_true h
def ddEq (k1 i1 x1 x2 x3 x4 x5 k2 i2 y1 y2 y3 y4 y5:Int):Bool:=decide (k1=k2) && (decide (i1=i2) && legEq x1 x2 x3 x4 x5 y1 y2 y3 y4 y5)
theorem zawy (k1 i1 x1 x2 x3 x4 x5 k2 i2 y1 y2 y3 y4 y5:Int) (w:World):(binOp .neq 82 (.agg #[.int .i64 k1,.int .i64 i1,.int .i64 x1,.int .i64 x2,.int .i64 x3,.int .i64 x4,.int .i64 x5]) (.agg #[.int .i64 k2,.int .i64 i2,.int .i64 y1,.int .i64 y2,.int .i64 y3,.int .i64 y4,.int .i64 y5])).run Tryz.prog w=.ok (.bool (!ddEq k1 i1 x1 x2 x3 x4 x5 k2 i2 y1 y2 y3 y4 y5)) w:=by
 by_cases h1:k1=k2
 · by_cases h2:i1=i2
   · by_cases h3:x1=y1
     · by_cases h4:x2=y2
       · by_cases h5:x3=y3
         · by_cases h6:x4=y4
           · by_cases h7:x5=y5 <;> (go_simp;simp [ddEq,legEq,h1,h2,h3,h4,h5,h6,h7])
           · (go_simp;simp [ddEq,legEq,h1,h2,h3,h4,h5,h6])
         · (go_simp;simp [ddEq,legEq,h1,h2,h3,h4,h5])
       · (go_simp;simp [ddEq,legEq,h1,h2,h3,h4])
     · (go_simp;simp [ddEq,legEq,h1,h2,h3])
   · (go_simp;simp [ddEq,h1,h2])
 · (go_simp;simp [ddEq,h1])
theorem zawz (d e:Dd):ddEq d.kind d.index d.leg.frm d.leg.to d.leg.east d.leg.north d.leg.up e.kind e.index e.leg.frm e.leg.to e.leg.east e.leg.north e.leg.up=decide (d=e):=by
 obtain ⟨k1,i1,g⟩:=d;obtain ⟨k2,i2,h⟩:=e;have:=zacx g h;simp only at this ⊢;unfold ddEq;rw [this]
 simp [Bool.and_assoc,Bool.decide_and]
theorem zaee (a1 a2:Option Addr) (c1 c2:Nat) (s t:Int) (l m:List Lg) (w:World) (hl:l.length≤1048576) (hm:m.length≤1048576) (h1:Legs w a1 l) (h2:Legs w a2 m) :
 Calls Tryz.prog 18 #[.agg #[.int .i64 s,.slice a1 l.length c1],.agg #[.int .i64 t,.slice a2 m.length c2]] w fun e w'=>e=.returned (.bool (decide ((⟨s,l⟩:Sv)=⟨t,m⟩)))∧Below w.heap.size w w':=by
 obtain ⟨X,hX⟩:=qN (w.heap.size);obtain ⟨W,hW⟩:=qM ((w.alloc (.cells #[.int .i64 s,.slice a1 l.length c1] 25)).alloc (.cells #[.int .i64 t,.slice a2 m.length c2] 25))
 have S0:At W X [.int .i64 s,.slice a1 l.length c1]:=by rw [hW];exact (At.new _ _ _ hX.symm rfl).alloc _
 have T0:At W (X+1) [.int .i64 t,.slice a2 m.length c2]:=by rw [hW];exact At.new _ _ _ (by simp [hX]) rfl
 have bW:Below w.heap.size w W:=by rw [hW];exact qBl
 replace h1:=h1.below bW;replace h2:=h2.below bW;obtain ⟨x0,x1,x2,-⟩:=id S0.facts2;obtain ⟨y0,y1,y2,-⟩:=id T0.facts2
 by_cases hst:s=t
 case neg =>
  have hE:Hid (decide ((⟨s,l⟩:Sv)=⟨t,m⟩)=false):=zafj (by rw [sv_eq];exact fun h=>hst h.1)
  have hne:(s != t)=true:=by simpa using hst
  clear hst h1 h2
  go_enter Tryz.func18,Tryz.ntmps18
  go_upto_region 1 with fail;rw [← hW];clear hW;go_wp2_with fail;go_ret
  exact ⟨by rw [hE.out];rfl,bW⟩
 have hst':(s != t)=false:=by simpa using hst
 by_cases hlen:l.length=m.length
 case neg =>
  have hE:Hid (decide ((⟨s,l⟩:Sv)=⟨t,m⟩)=false):=zafj (by rw [sv_eq];exact fun h=>hlen (by rw [h.2]))
  have hne:((l.length:Int) != (m.length:Int))=true:=by simp;omega
  clear hst h1 h2 hlen
  go_enter Tryz.func18,Tryz.ntmps18
  go_upto_region 1 with fail;rw [← hW];clear hW;go_wp2_with fail;go_ret
  exact ⟨by rw [hE.out];rfl,bW⟩
 have hne:((l.length:Int) != (m.length:Int))=false:=by simp [hlen]
 have HL:=Lib.hid hlen;have HS:=Lib.hid hst;clear hlen hst
 go_enter Tryz.func18,Tryz.ntmps18
 go_upto_region 1 with fail;rw [← hW];clear hW;go_wp2_with fail;clear hne hst'
 go_loopw [5] (fun i wr=>∃ (k q:Nat),k≤l.length∧i=.int .i64 k∧Hid (l.take k=m.take k)∧wr=W.drewN q) (fun i _=>l.length - (intOf i).toNat)
 case atStart=>exact ⟨0,0,by omega,rfl,rfl,rfl⟩
 case round =>
  obtain ⟨k,q,hk,rfl,HT,rfl⟩:=hrel
  by_cases hlt:k<l.length
  · have hlt2:k<m.length:=by rw [← HL.out];exact hlt
    obtain ⟨b,off,rfl,hbw,p0,p1,p2,p3,p4⟩:=Legs.at h1 hlt;obtain ⟨b',off',rfl,hbw',q0,q1,q2,q3,q4⟩:=Legs.at h2 hlt2;have hE:=zah0 (nth l k).frm (nth l k).to (nth l k).east (nth l k).north (nth l k).up (nth m k).frm (nth m k).to (nth m k).east (nth m k).north (nth m k).up;rw [zacx] at hE
    by_cases hx:nth l k=nth m k
    · have HX:=Lib.hid hx
      rw [zadc hx] at hE;clear hx h1 h2;go_wp2_with fail
      go_quiet (fail)
      go_wp2_with fail;go_roundw
      case rel=>exact ⟨k+1,_,by omega,by go_num,zah4 hlt hlt2 HT.out HX.out,rfl⟩
      case measure=>simp [intOf] <;> omega
    · have HNO:Hid (decide ((⟨s,l⟩:Sv)=⟨t,m⟩)=false):=zafj (by rw [sv_eq];exact fun e=>hx (by rw [e.2]))
      rw [zafj hx] at hE;clear hx h1 h2;go_wp2_with fail
      go_quiet (fail)
      go_wp2_with fail;go_ret
      exact ⟨by rw [HNO.out];rfl,by first|exact below_drewN bW _|exact below_drewN (below_drewN bW _) _⟩
  · have HE:Hid (decide ((⟨s,l⟩:Sv)=⟨t,m⟩)=true):=zadc (by
     have h:=HT.out;rw [List.take_of_length_le qO,List.take_of_length_le (by rw [← HL.out];omega)] at h
     rw [sv_eq];exact ⟨HS.out,h⟩)
    go_wp2_with fail;go_ret
    exact ⟨by rw [HE.out];rfl,below_drewN bW _⟩
theorem zahe (a1 a2:Option Addr) (c1 c2:Nat) (xs ys:List Dd) (w:World) (hl1:xs.length≤1048576) (_:ys.length≤1048576) (h1:Dds w a1 xs) (h2:Dds w a2 ys) :
 Calls Tryz.prog 41 #[.slice a1 xs.length c1,.slice a2 ys.length c2] w fun e w'=>e=.returned (.bool (decide (xs=ys)))∧Below w.heap.size w w':=by
 by_cases hlen:xs.length=ys.length
 · have hne:((xs.length:Int) != (ys.length:Int))=false:=by simp [hlen]
   have HL:=Lib.hid hlen;clear hlen
   go_enter Tryz.func41,Tryz.ntmps41
   go_wp2_with fail;clear hne
   go_loopw [5] (fun i wr=>∃ (k q:Nat),k≤xs.length∧i=.int .i64 k∧Hid (xs.take k=ys.take k)∧wr=w.drewN q) (fun i _=>xs.length - (intOf i).toNat)
   case atStart=>exact ⟨0,0,by omega,rfl,rfl,rfl⟩
   case round =>
    obtain ⟨k,q,hk,rfl,HT,rfl⟩:=hrel
    by_cases hlt:k<xs.length
    · have hlt2:k<ys.length:=by rw [← HL.out];exact hlt
      obtain ⟨b,off,rfl,hbw,p0,p1,p2,p3,p4,p5,p6⟩:=Dds.at h1 hlt;obtain ⟨b',off',rfl,hbw',q0,q1,q2,q3,q4,q5,q6⟩:=Dds.at h2 hlt2;have hE:=zawy (nth xs k).kind (nth xs k).index (nth xs k).leg.frm (nth xs k).leg.to (nth xs k).leg.east (nth xs k).leg.north (nth xs k).leg.up (nth ys k).kind (nth ys k).index (nth ys k).leg.frm (nth ys k).leg.to (nth ys k).leg.east (nth ys k).leg.north (nth ys k).leg.up;rw [zawz] at hE
      by_cases hx:nth xs k=nth ys k
      · have HX:=Lib.hid hx
        rw [zadc hx] at hE;clear hx h1 h2;go_wp2_with fail
        go_quiet (fail)
        go_wp2_with fail;go_roundw
        case rel=>exact ⟨k+1,_,by omega,by go_num,zah4 hlt hlt2 HT.out HX.out,rfl⟩
        case measure=>simp [intOf] <;> omega
      · have HNO:Hid (decide (xs=ys)=false):=zafj (fun e=>hx (by rw [e]))
        rw [zafj hx] at hE;clear hx h1 h2;go_wp2_with fail
        go_quiet (fail)
        go_wp2_with fail;go_ret
        exact ⟨by rw [HNO.out];rfl,by first|exact below_drewN (Below.refl _ _) _|exact below_drewN (below_drewN (Below.refl _ _) _) _⟩
    · have HE:Hid (decide (xs=ys)=true):=zadc (by
       have h:=HT.out;rw [List.take_of_length_le qO,List.take_of_length_le (by rw [← HL.out];omega)] at h
       exact h)
      go_wp2_with fail;go_ret
      exact ⟨by rw [HE.out];rfl,below_drewN (Below.refl _ _) _⟩
 · have hne:((xs.length:Int) != (ys.length:Int))=true:=by simp;omega
   have HNO:Hid (decide (xs=ys)=false):=zafj (fun e=>hlen (by rw [e]))
   clear hlen
   go_enter Tryz.func41,Tryz.ntmps41
   go_wp2_with fail;go_ret
   exact ⟨by rw [HNO.out];rfl,Below.refl _ _⟩
theorem bk_eq (s t:Int) (l l':List Lg) (d d' u u':List Dd):((⟨⟨s,l⟩,d,u⟩:Bk)=⟨⟨t,l'⟩,d',u'⟩)=((⟨s,l⟩:Sv)=⟨t,l'⟩∧d=d'∧u=u'):=qP
theorem zafk (a1 a2 a3 a1' a2' a3':Option Addr) (c1 c2 c3 c1' c2' c3':Nat) (s t:Int) (l l':List Lg) (d u d' u':List Dd) (w:World) (hl:l.length≤1048576) (hd:d.length≤1048576) (hu:u.length≤1048576) (hl':l'.length≤1048576) (hd':d'.length≤1048576) (hu':u'.length≤1048576)
 (h1:RdB w a1 a2 a3 ⟨⟨s,l⟩,d,u⟩) (h2:RdB w a1' a2' a3' ⟨⟨t,l'⟩,d',u'⟩) :
 Calls Tryz.prog 10 #[.agg #[.int .i64 s,.slice a1 l.length c1,.slice a2 d.length c2,.slice a3 u.length c3],.agg #[.int .i64 t,.slice a1' l'.length c1',.slice a2' d'.length c2',.slice a3' u'.length c3']] w fun e w'=>e=.returned (.bool (decide ((⟨⟨s,l⟩,d,u⟩:Bk)=⟨⟨t,l'⟩,d',u'⟩)))∧Below w.heap.size w w':=by
 obtain ⟨X,hX⟩:=qN (w.heap.size);obtain ⟨W,hW⟩:=qM ((w.alloc (.cells #[.int .i64 s,.slice a1 l.length c1,.slice a2 d.length c2,.slice a3 u.length c3] 28)).alloc (.cells #[.int .i64 t,.slice a1' l'.length c1',.slice a2' d'.length c2',.slice a3' u'.length c3'] 28))
 have A0:At W X [.int .i64 s,.slice a1 l.length c1,.slice a2 d.length c2,.slice a3 u.length c3]:=by rw [hW];exact (At.new _ _ _ hX.symm rfl).alloc _
 have R0:At W (X+1) [.int .i64 t,.slice a1' l'.length c1',.slice a2' d'.length c2',.slice a3' u'.length c3']:=by rw [hW];exact At.new _ _ _ (by simp [hX]) rfl
 have bW:Below w.heap.size w W:=by rw [hW];exact qBl
 obtain ⟨E1,hE1⟩:=qN (decide ((⟨s,l⟩:Sv)=⟨t,l'⟩));obtain ⟨E2,hE2⟩:=qN (decide (d=d'));obtain ⟨E3,hE3⟩:=qN (decide (u=u'))
 have HE:Hid (decide ((⟨⟨s,l⟩,d,u⟩:Bk)=⟨⟨t,l'⟩,d',u'⟩)=(E1 && (E2 && E3))):=by
  show _=_
  rw [← hE1,← hE2,← hE3,← Bool.decide_and,← Bool.decide_and]
  exact decide_eq_decide.2 (by rw [bk_eq])
 go_enter Tryz.func10,Tryz.ntmps10
 go_wp2_with fail;rw [← hW];clear hW;refine (zaee _ _ _ _ s t l l' _ hl hl' (h1.l.below bW) (h2.l.below bW)).mono ?_;rintro e w1 ⟨rfl,k1⟩;rw [hE1];replace A0:=A0.below k1;replace R0:=R0.below k1;replace bW:=bW.trans (k1.mono bW.size);clear k1 hE1;obtain ⟨z0,z1,z2,z3,z4,-⟩:=A0.facts4;obtain ⟨q0,q1,q2,q3,q4,-⟩:=R0.facts4
 cases E1
 · go_wp2_with fail
   go_ret
   exact ⟨by rw [HE.out];rfl,bW⟩
 go_wp2_with fail;refine (zahe _ _ _ _ d d' _ hd hd' (h1.d.below bW) (h2.d.below bW)).mono ?_;rintro e w2 ⟨rfl,k2⟩;rw [hE2];replace A0:=A0.below k2;replace R0:=R0.below k2;replace bW:=bW.trans (k2.mono bW.size);clear k2 hE2 z0 z1 z2 z3 z4 q0 q1 q2 q3 q4;obtain ⟨z0,z1,z2,z3,z4,-⟩:=A0.facts4;obtain ⟨q0,q1,q2,q3,q4,-⟩:=R0.facts4
 cases E2
 · go_wp2_with fail
   go_ret
   exact ⟨by rw [HE.out];rfl,bW⟩
 go_wp2_with fail;refine (zahe _ _ _ _ u u' _ hu hu' (h1.u.below bW) (h2.u.below bW)).mono ?_;rintro e w3 ⟨rfl,k3⟩;rw [hE3];replace bW:=bW.trans (k3.mono bW.size);clear k3 hE3 z0 z1 z2 z3 z4 q0 q1 q2 q3 q4 A0 R0;go_wp2_with fail;go_ret
 exact ⟨by rw [HE.out];rfl,bW⟩
theorem zax7:legB ⟨0,1,3,-4,2⟩=⟨#[48,62,49,58,51,44,45,52,44,50]⟩:=by decide +kernel
theorem zax8:legB ⟨0,0,0,0,0⟩=⟨#[]⟩:=by decide +kernel
theorem zam0 (w:World) (hp:Pow w) :
 Calls Tryz.prog 14 #[] w fun e w'=>e=.returned (.bool true)∧Below w.heap.size w w':=by
 go_enter Tryz.func14,Tryz.ntmps14
 go_wp2_with fail;refine (zadi ⟨0,1,3,-4,2⟩ _ hp).mono ?_;rintro e w1 ⟨rfl,b1⟩;rw [zax7];go_wp2_with fail;refine (zadi ⟨0,0,0,0,0⟩ _ (hp.below b1)).mono ?_;rintro e w2 ⟨rfl,b2⟩;rw [zax8]
 go_wp2
 go_ret
 exact ⟨rfl,b1.trans (b2.mono b1.size)⟩
def linesB (t:ByteArray):List Dd→ByteArray
 | []=>t
 | g :: l=>linesB (t ++ (deedB g ++ ⟨#[10]⟩)) l
def bookB (b:Bk):ByteArray:=if bkOk b then linesB (surveyB b.first ++ ⟨#[10]⟩) b.done else ⟨#[]⟩
theorem zarz (t:ByteArray) {l:List Dd} {k:Nat} (h:k<l.length):linesB t (l.drop k)=linesB (t ++ (deedB (nth l k) ++ ⟨#[10]⟩)) (l.drop (k+1)):=by
 rw [zab3 h];rfl
end Go.Proofs.YthfoloefkfadlaaGreatDoor
