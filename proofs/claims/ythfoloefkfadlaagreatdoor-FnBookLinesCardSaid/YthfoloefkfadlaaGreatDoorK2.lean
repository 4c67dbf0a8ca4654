/- Walks: legs and surveys are valid (impl and spec). -/
import Derived.Test.YthfoloefkfadlaaGreatDoorProg
import Derived.Test.YthfoloefkfadlaaGreatDoorK1
import Derived.Lib.QuietBelow
import Derived.Deep.RegionWith
import Derived.Lib.SliceRun
import Derived.Lib.Overlaps
import Derived.Shelf.RegionOpenPlain
import Derived.Below
set_option linter.unusedSimpArgs false
set_option linter.unusedVariables false
namespace Go.Proofs.YthfoloefkfadlaaGreatDoor
open Go Go.RowKit Go.Sort
theorem zaal (n m:Int) (w:World) :
 Calls Tryz.prog 98 #[.int .i64 n,.int .i64 m] w fun e w'=>e=.returned (.bool (isIdx n m))∧w=w':=by
 by_cases h:0≤n
 · go_enter Tryz.func98,Tryz.ntmps98
   go_wp2
   go_ret
   exact ⟨by simp [isIdx,h],rfl⟩
 · have h':decide (0≤n)=false:=by simpa using h
   have H:=Lib.hid h';clear h'
   go_enter Tryz.func98,Tryz.ntmps98
   go_wp2
   go_ret
   exact ⟨by simp only [isIdx,H.out];rfl,rfl⟩
theorem zahs (n m:Int) (w:World) (hm:0≤m) (hm':m≤1000000) :
 Calls Tryz.prog 159 #[.int .i64 n,.int .i64 m] w fun e w'=>e=.returned (.bool (isIn n m))∧w=w':=by
 by_cases h : -m≤n
 · go_enter Tryz.func159,Tryz.ntmps159
   go_wp2
   go_ret
   exact ⟨by simp [isIn,h],rfl⟩
 · have h':decide (-m≤n)=false:=by simpa using h
   have H:=Lib.hid h';clear h'
   go_enter Tryz.func159,Tryz.ntmps159
   go_wp2
   go_ret
   exact ⟨by simp only [isIn,H.out];rfl,rfl⟩
theorem zaff (n:Int) (w:World) :
 Calls Tryz.prog 132 #[.int .i64 n] w fun e w'=>e=.returned (.bool (isIn n 99))∧w=w':=by
 go_enter Tryz.func132,Tryz.ntmps132
 go_wp2_with (go_at_call 159;refine (zahs _ _ _ qO qO).mono ?_;rintro e w' ⟨rfl,rfl⟩)
 go_ret
 exact ⟨rfl,rfl⟩
theorem zad1 (n:Int) (g:Lg) (w:World) :
 Calls Tryz.prog 87 #[.int .i64 n,g.val] w fun e w'=>e=.returned (.bool (legOk n g))∧Below w.heap.size w w':=by
 obtain ⟨x1,x2,x3,x4,x5⟩:=g
 show Calls Tryz.prog 87 #[.int .i64 n,.agg #[.int .i64 x1,.int .i64 x2,.int .i64 x3,.int .i64 x4,.int .i64 x5]] w _
 by_cases h1:n<1
 · go_enter Tryz.func87,Tryz.ntmps87
   go_wp2
   go_ret
   exact ⟨by simp [legOk,h1],qBl⟩
 by_cases h2:6<n
 · go_enter Tryz.func87,Tryz.ntmps87
   go_wp2
   go_ret
   exact ⟨by simp [legOk,h2],qBl⟩
 cases h3:isIdx x1 n
 · go_enter Tryz.func87,Tryz.ntmps87
   go_wp2_with (go_at_call 98;refine (zaal _ _ _).mono ?_;rintro e w' ⟨rfl,rfl⟩)
   go_ret
   exact ⟨by simp [legOk,h3],qBl⟩
 cases h4:isIdx x2 n
 · go_enter Tryz.func87,Tryz.ntmps87
   go_wp2_with (go_at_call 98;refine (zaal _ _ _).mono ?_;rintro e w' ⟨rfl,rfl⟩)
   go_ret
   exact ⟨by simp [legOk,h4],qBl⟩
 by_cases h5:x1=x2
 · subst h5
   go_enter Tryz.func87,Tryz.ntmps87
   go_wp2_with (go_at_call 98;refine (zaal _ _ _).mono ?_;rintro e w' ⟨rfl,rfl⟩)
   go_ret
   exact ⟨by simp [legOk],qBl⟩
 cases h6:isIn x3 99
 · go_enter Tryz.func87,Tryz.ntmps87
   go_wp2_with (first|(go_at_call 98;refine (zaal _ _ _).mono ?_;rintro e w' ⟨rfl,rfl⟩)|(go_at_call 132;refine (zaff _ _).mono ?_;rintro e w' ⟨rfl,rfl⟩))
   go_ret
   exact ⟨by simp [legOk,h6],qBl⟩
 cases h7:isIn x4 99
 · go_enter Tryz.func87,Tryz.ntmps87
   go_wp2_with (first|(go_at_call 98;refine (zaal _ _ _).mono ?_;rintro e w' ⟨rfl,rfl⟩)|(go_at_call 132;refine (zaff _ _).mono ?_;rintro e w' ⟨rfl,rfl⟩))
   go_ret
   exact ⟨by simp [legOk,h7],qBl⟩
 · have hL:legOk n ⟨x1,x2,x3,x4,x5⟩=isIn x5 99:=by simp [legOk,h1,h2,h3,h4,h5,h6,h7]
   have HL:=Lib.hid hL;clear hL
   go_enter Tryz.func87,Tryz.ntmps87
   go_wp2_with (first|(go_at_call 98;refine (zaal _ _ _).mono ?_;rintro e w' ⟨rfl,rfl⟩)|(go_at_call 132;refine (zaff _ _).mono ?_;rintro e w' ⟨rfl,rfl⟩))
   go_ret
   exact ⟨by rw [HL.out];rfl,qBl⟩
theorem zaab (a:Option Addr) (c:Nat) (n:Int) (l:List Lg) (w:World) (hl:l.length≤1048576) (hs:Legs w a l) :
 Calls Tryz.prog 74 #[.agg #[.int .i64 n,.slice a l.length c]] w fun e w'=>e=.returned (.bool (svOk ⟨n,l⟩))∧Below w.heap.size w w':=by
 by_cases h1:n<1
 · go_enter Tryz.func74,Tryz.ntmps74
   go_wp2
   go_ret
   exact ⟨by simp [svOk,h1],qBl⟩
 by_cases h2:6<n
 · go_enter Tryz.func74,Tryz.ntmps74
   go_wp2
   go_ret
   exact ⟨by simp [svOk,h2],qBl⟩
 by_cases h3:l.length≤9
 · have hp:svOk ⟨n,l⟩=legsOk n l:=by simp [svOk,h1,h2,h3]
   have HP:=Lib.hid hp;clear hp
   go_enter Tryz.func74,Tryz.ntmps74
   go_wp2_with fail
   go_loopw [22] (fun i wr=>∃ k:Nat,k≤l.length∧i=.int .i64 k∧Hid (legsOk n l=legsOk n (l.drop k))∧Below (w.heap.size+1) (w.alloc (.cells #[.int .i64 n,.slice a l.length c] 25)) wr) (fun i _=>l.length - (intOf i).toNat)
   case atStart=>exact ⟨0,by omega,rfl,rfl,by first|exact Below.refl _ _|exact (Below.refl _ _)⟩
   case round =>
    obtain ⟨k,hk,rfl,HR,hb⟩:=hrel
    have hz:w.heap.size<wr.heap.size:=by have:=hb.size;simp at this;omega
    have hbw:Below w.heap.size w wr:=((Below.refl w.heap.size w).alloc (Nat.le_refl _) _).trans (hb.mono qO)
    have c0:wr.cell? ⟨w.heap.size,0,none⟩=some (.int .i64 n):=by rw [hb.cell (p:=⟨w.heap.size,0,none⟩) qP];simp
    by_cases hlt:k<l.length
    · obtain ⟨b,off,rfl,hbz,e1,e2,e3,e4,e5⟩:=Legs.at (hs.below hbw) hlt
      clear hs;have HD:=Lib.hid (zaio (n:=n) hlt)
      cases hx:legOk n (nth l k)
      · go_wp2_with (go_at_call 87;refine (zad1 n (nth l k) _).mono ?_;rintro e w' ⟨rfl,hb2⟩)
        go_ret
        refine ⟨by rw [HP.out,HR.out,HD.out];simp [hx],(hbw.alloc qO _).trans (hb2.mono (by simp;omega))⟩
      · go_wp2_with (go_at_call 87;refine (zad1 n (nth l k) _).mono ?_;rintro e w' ⟨rfl,hb2⟩)
        go_roundw
        case rel=>exact ⟨k+1,by omega,by go_num,by show _=_;rw [HR.out,HD.out];simp [hx],(hb.alloc qO _).trans (hb2.mono (by simp;omega))⟩
        case measure=>simp [intOf];omega
    · go_wp2
      go_ret
      exact ⟨by rw [HP.out,HR.out,List.drop_eq_nil_of_le qO];rfl,hbw⟩
 · go_enter Tryz.func74,Tryz.ntmps74
   go_wp2
   go_ret
   exact ⟨by simp [svOk,h3],qBl⟩
def inB (n lo hi:Int):Bool:=decide (lo≤n) && decide (n≤hi)
theorem zaac (n lo hi:Int) (w:World) :
 Calls Tryz.prog 85 #[.int .i64 n,.int .i64 lo,.int .i64 hi] w fun e w'=>e=.returned (.bool (inB n lo hi))∧w=w':=by
 by_cases h:lo≤n
 · go_enter Tryz.func85,Tryz.ntmps85
   go_wp2
   go_ret
   exact ⟨by simp [inB,h],rfl⟩
 · have h':decide (lo≤n)=false:=by simpa using h
   have H:=Lib.hid h';clear h'
   go_enter Tryz.func85,Tryz.ntmps85
   go_wp2
   go_ret
   exact ⟨by simp only [inB,H.out];rfl,rfl⟩
theorem zawn (n:Int) (x1 x2 x3 x4 x5:Int):legOk n ⟨x1,x2,x3,x4,x5⟩=(inB n 1 6 && inB x1 0 (n - 1) && inB x2 0 (n - 1) && !decide (x1=x2) && inB x3 (-99) 99 && inB x4 (-99) 99 && inB x5 (-99) 99):=by
 rw [Bool.eq_iff_iff];simp only [legOk,inB,isIdx,isIn,Bool.and_eq_true,Bool.not_eq_true',Bool.or_eq_false_iff,decide_eq_false_iff_not,decide_eq_true_eq]
 omega
theorem zabn (n:Int) (g:Lg) (w:World) :
 Calls Tryz.prog 84 #[.int .i64 n,g.val] w fun e w'=>e=.returned (.bool (legOk n g))∧Below w.heap.size w w':=by
 obtain ⟨x1,x2,x3,x4,x5⟩:=g
 show Calls Tryz.prog 84 #[.int .i64 n,.agg #[.int .i64 x1,.int .i64 x2,.int .i64 x3,.int .i64 x4,.int .i64 x5]] w _
 have HL:=Lib.hid (zawn n x1 x2 x3 x4 x5)
 cases h1:inB n 1 6
 · go_enter Tryz.func84,Tryz.ntmps84
   go_wp2_with (go_at_call 85;refine (zaac _ _ _ _).mono ?_;rintro e w' ⟨rfl,rfl⟩)
   go_ret
   exact ⟨by rw [HL.out];simp [h1],qBl⟩
 have hn:1≤n∧n≤6:=by simpa [inB] using h1
 obtain ⟨hn1,hn2⟩:=hn
 cases h3:inB x1 0 (n - 1)
 · go_enter Tryz.func84,Tryz.ntmps84
   go_wp2_with (go_at_call 85;refine (zaac _ _ _ _).mono ?_;rintro e w' ⟨rfl,rfl⟩)
   go_ret
   exact ⟨by rw [HL.out];simp [h3],qBl⟩
 cases h4:inB x2 0 (n - 1)
 · go_enter Tryz.func84,Tryz.ntmps84
   go_wp2_with (go_at_call 85;refine (zaac _ _ _ _).mono ?_;rintro e w' ⟨rfl,rfl⟩)
   go_ret
   exact ⟨by rw [HL.out];simp [h4],qBl⟩
 by_cases h5:x1=x2
 · subst h5
   go_enter Tryz.func84,Tryz.ntmps84
   go_wp2_with (go_at_call 85;refine (zaac _ _ _ _).mono ?_;rintro e w' ⟨rfl,rfl⟩)
   go_ret
   exact ⟨by rw [HL.out];simp,qBl⟩
 cases h6:inB x3 (-99) 99
 · go_enter Tryz.func84,Tryz.ntmps84
   go_wp2_with (go_at_call 85;refine (zaac _ _ _ _).mono ?_;rintro e w' ⟨rfl,rfl⟩)
   go_ret
   exact ⟨by rw [HL.out];simp [h6],qBl⟩
 cases h7:inB x4 (-99) 99
 · go_enter Tryz.func84,Tryz.ntmps84
   go_wp2_with (go_at_call 85;refine (zaac _ _ _ _).mono ?_;rintro e w' ⟨rfl,rfl⟩)
   go_ret
   exact ⟨by rw [HL.out];simp [h7],qBl⟩
 · go_enter Tryz.func84,Tryz.ntmps84
   go_wp2_with (go_at_call 85;refine (zaac _ _ _ _).mono ?_;rintro e w' ⟨rfl,rfl⟩)
   go_ret
   exact ⟨by rw [HL.out];simp [h1,h3,h4,h5,h6,h7],qBl⟩
theorem zaad {f:FuncId} {args:Array Value} {w:World} {v:Value}
 (h:∀ w,Calls Tryz.prog f args w fun e w'=>e=.returned v∧Below w.heap.size w w') (d:Nat) (os:Array Obj) :
 Calls Tryz.prog f args (grow (redrawn w d) os) fun e w''=>e=.returned v∧∃ p:Regrown,w''=grow (redrawn w p.d) p.os :=
 Calls.regrown_of (h _)
theorem zaaa (a:Option Addr) (c:Nat) (n:Int) (l:List Lg) (w:World) (hl:l.length≤1048576) (hs:Legs w a l) :
 Calls Tryz.prog 42 #[.agg #[.int .i64 n,.slice a l.length c]] w fun e w'=>e=.returned (.bool (svOk ⟨n,l⟩))∧Below w.heap.size w w':=by
 have hp:legsOk n l=false→svOk ⟨n,l⟩=false:=by intro h;simp [svOk,h]
 have HP:=Lib.hid hp
 have hp2:legsOk n l=true→svOk ⟨n,l⟩=(inB n 1 6 && decide (l.length≤9)):=by
  intro h;rw [Bool.eq_iff_iff];simp only [svOk,h,inB,Bool.and_eq_true,Bool.not_eq_true',Bool.or_eq_false_iff,decide_eq_false_iff_not,decide_eq_true_eq]
  exact ⟨fun ⟨⟨⟨h1,h2⟩,h3⟩,_⟩=>⟨⟨by omega,by omega⟩,by omega⟩,fun ⟨⟨h1,h2⟩,h3⟩=>⟨⟨⟨by omega,by omega⟩,by omega⟩,trivial⟩⟩
 have HP2:=Lib.hid hp2;clear hp hp2
 go_enter Tryz.func42,Tryz.ntmps42
 go_wp2_with fail
 go_loopw [3] (fun i wr=>∃ k:Nat,k≤l.length∧i=.int .i64 k∧Hid (legsOk n l=legsOk n (l.drop k))∧Below (w.heap.size+1) (w.alloc (.cells #[.int .i64 n,.slice a l.length c] 25)) wr) (fun i _=>l.length - (intOf i).toNat)
 case atStart=>exact ⟨0,by omega,rfl,rfl,by first|exact Below.refl _ _|exact (Below.refl _ _)⟩
 case round =>
  obtain ⟨k,hk,rfl,HR,hb⟩:=hrel
  have hz:w.heap.size<wr.heap.size:=by have:=hb.size;simp at this;omega
  have hbw:Below w.heap.size w wr:=((Below.refl w.heap.size w).alloc (Nat.le_refl _) _).trans (hb.mono qO)
  have c0:wr.cell? ⟨w.heap.size,0,none⟩=some (.int .i64 n):=by rw [hb.cell (p:=⟨w.heap.size,0,none⟩) qP];simp
  have c1:wr.cell? ⟨w.heap.size,1,none⟩=some (.slice a l.length c):=by rw [hb.cell (p:=⟨w.heap.size,1,none⟩) qP];simp
  by_cases hlt:k<l.length
  · obtain ⟨b,off,rfl,hbz,e1,e2,e3,e4,e5⟩:=Legs.at (hs.below hbw) hlt
    clear hs;have HD:=Lib.hid (zaio (n:=n) hlt);go_wp2_with fail;have k0:=cell_regrown c0;have k1:=cell_regrown c1;have k2:=cell_regrown e1;have k3:=cell_regrown e2;have k4:=cell_regrown e3;have k5:=cell_regrown e4;have k6:=cell_regrown e5;have i1:=zaad (w:=wr) (zabn n (nth l k));simp only [Lg.val] at i1;refine wp_region_quiet_below (by kernel_rfl) (by kernel_rfl) ?_
    repeat (quiet_step (first|with_reducible exact i1 _ _))
    refine wpQuiet_nil ?_;intro _ hw';obtain ⟨⟨dq,osq⟩,hw''⟩:=hw';have hgr:Below wr.heap.size wr (grow (redrawn wr dq) osq):=below_regrown wr dq osq;subst hw'';generalize grow (redrawn wr dq) osq=W2 at hgr ⊢;clear k0 k1 k2 k3 k4 k5 k6 i1 c0 c1 e1 e2 e3 e4 e5
    cases hx:legOk n (nth l k)
    · go_wp2
      go_ret
      refine ⟨by rw [HP.out (by rw [HR.out,HD.out];simp [hx])];rfl,hbw.trans (hgr.mono qO)⟩
    · go_wp2
      go_roundw
      case rel=>exact ⟨k+1,by omega,by go_num,by show _=_;rw [HR.out,HD.out];simp [hx],hb.trans (hgr.mono qO)⟩
      case measure=>simp [intOf];omega
  · have hok:legsOk n l=true:=by rw [HR.out,List.drop_eq_nil_of_le qO];rfl
    have HS:=Lib.hid (HP2.out hok);clear hok
    cases h6:inB n 1 6
    · go_wp2_with (go_at_call 85;refine (zaac _ _ _ _).mono ?_;rintro e w' ⟨rfl,rfl⟩)
      go_ret
      exact ⟨by rw [HS.out,h6];rfl,hbw⟩
    · go_wp2_with (go_at_call 85;refine (zaac _ _ _ _).mono ?_;rintro e w' ⟨rfl,rfl⟩)
      go_ret
      exact ⟨by rw [HS.out,h6];simp;omega,hbw⟩
abbrev OwnL (w:World) (B:Nat) (v:Value) (l:List Lg):Prop:=KOwn legK 75 w B v l
theorem zalu:(Tryz.prog.info? 75).map (fun i=>(i.zero,i.size,i.bytes))=some (some (.agg #[.int .i64 0,.int .i64 0,.int .i64 0,.int .i64 0,.int .i64 0]),5,40):=by kernel_rfl
theorem legI:KInfo Tryz.prog legK 75 23:=by
 obtain ⟨i0,hi,hz0,hz1,hz2⟩:=info_parts zalu
 exact ⟨Tryz.underlying23,⟨i0,_,40,hi,hz0,hz1,hz2,rfl,by omega⟩,by decide⟩
theorem zanx (a:Option Addr) (c:Nat) (l:List Lg) (w:World) (hl:l.length≤1048576) (hs:Legs w a l) :
 Calls Tryz.prog 94 #[.slice a l.length c] w fun e w'=>∃ v,e=.returned v∧OwnL w' w.heap.size v l∧Below w.heap.size w w':=by
 have heq:∀ (w:World) (a:Option Addr) (n c n' c':Nat),(binOp .eql 23 (.slice a n c) (.slice none n' c')).run Tryz.prog w=.ok (.bool a.isNone) w:=fun w a n c n' c'=>Lib.run_eql_slice_nil w _ _ a n c n' c' Tryz.underlying23
 cases a with
 | none =>
   obtain rfl:=hs.empty
   go_enter Tryz.func94,Tryz.ntmps94
   go_wp2
   go_ret
   exact ⟨_,rfl,KOwn.nil,Below.refl _ _⟩
 | some ad =>
   go_enter Tryz.func94,Tryz.ntmps94
   go_wp2_with (at_builtin;refine zaaj legI _ _ rfl rfl w.heap.size _ [] l (some ad) c rfl (KOwn.lit w w.heap.size (Nat.le_refl _)) rfl (hs.below qBl) qP qO qP ?_;rintro av cv w1 o1 - b1 -)
   go_ret
   exact ⟨_,rfl,o1,Below.trans qBl b1⟩
def SvRet (s:Sv) (w:World) (e:Ending) (w':World):Prop:=∃ v,e=.returned (.agg #[.int .i64 s.st,v])∧OwnL w' w.heap.size v s.legs∧Below w.heap.size w w'
theorem zaai (a:Option Addr) (c:Nat) (n:Int) (l:List Lg) (w:World) (hl:l.length≤1048576) (hs:Legs w a l) :
 Calls Tryz.prog 48 #[.agg #[.int .i64 n,.slice a l.length c]] w (SvRet ⟨n,l⟩ w):=by
 go_enter Tryz.func48,Tryz.ntmps48
 go_wp2_with fail;obtain ⟨X,hX⟩:=qN (w.heap.size);obtain ⟨W,hW⟩:=qM ((w.alloc (.cells #[.int .i64 n,.slice a l.length c] 25)).alloc (.cells #[.int .i64 0,.slice none 0 0] 25))
 have bW:Below w.heap.size w W:=by rw [hW];exact qBl
 have c0:W.cell? ⟨X,0,none⟩=some (.int .i64 n):=by rw [hW,← hX];simp
 have c1:W.cell? ⟨X,1,none⟩=some (.slice a l.length c):=by rw [hW,← hX];simp
 have r0:W.cell? ⟨X+1,0,none⟩=some (.int .i64 0):=by rw [hW,← hX];simp
 have r1:W.cell? ⟨X+1,1,none⟩=some (.slice none 0 0):=by rw [hW,← hX];simp
 have f0:W.frozen? ⟨X+1,0,none⟩=false:=by rw [hW,← hX];simp
 have f1:W.frozen? ⟨X+1,1,none⟩=false:=by rw [hW,← hX];simp
 have hzX:X+1<W.heap.size:=by rw [hW,← hX];simp
 rw [hX,← hW];have pW:=hs.below bW;clear hW
 go_loud (go_region_with (go_at_call 94;refine (zanx _ _ l _ hl (pW.below (by repeat (first|exact Below.refl _ _|refine Below.drew ?_)))).mono ?_;rintro e w1 ⟨v,rfl,o1,b1⟩;obtain ⟨av,cv,rfl⟩:=o1.sl;have b2:Below W.heap.size W w1:=Below.trans (by repeat (first|exact Below.refl _ _|refine Below.drew ?_)) (b1.mono qP);have p0:=(b2.cell (p:=⟨X,0,none⟩) (by show X<_;omega)).trans c0;have p1:=(b2.cell (p:=⟨X,1,none⟩) (by show X<_;omega)).trans c1;have q0:=(b2.cell (p:=⟨X+1,0,none⟩) hzX).trans r0;have q1:=(b2.cell (p:=⟨X+1,1,none⟩) hzX).trans r1;have g0:=(b2.frozen (p:=⟨X+1,0,none⟩) hzX).trans f0;have g1:=(b2.frozen (p:=⟨X+1,1,none⟩) hzX).trans f1;clear b1))
 all_goals
  clear c0 c1 r0 r1 f0 f1;have hz2:W.heap.size≤w1.heap.size:=b2.size
  have bF:Below w.heap.size w ((w1.setCell ⟨X+1,0,none⟩ (.int .i64 n)).setCell ⟨X+1,1,none⟩ (.slice av l.length cv)) :=
   ((bW.trans (b2.mono bW.size)).setCell (by show _≤X+1;omega) _).setCell (by show _≤X+1;omega) _
  have oF:=((o1.setCell (p:=⟨X+1,0,none⟩) hzX (.int .i64 n)).setCell (p:=⟨X+1,1,none⟩) hzX (.slice av l.length cv)).mono bW.size
  go_wp2
  exact bodyPost_ret (v:=.agg #[.int .i64 n,.slice av l.length cv]) (by simp [results,Tryz.results48,go_sem,q0,q1]) rfl ⟨_,rfl,oF,bF⟩
theorem zaah (a:Option Addr) (c:Nat) (n:Int) (l:List Lg) (w:World) (hl:l.length≤1048576) (hs:Legs w a l) :
 Calls Tryz.prog 83 #[.agg #[.int .i64 n,.slice a l.length c]] w (SvRet ⟨n,l⟩ w):=by
 go_enter Tryz.func83,Tryz.ntmps83
 go_wp2_with fail;obtain ⟨X,hX⟩:=qN (w.heap.size);obtain ⟨W,hW⟩:=qM ((w.alloc (.cells #[.int .i64 n,.slice a l.length c] 25)).alloc (.cells #[.int .i64 0,.slice none 0 0] 25))
 have bW:Below w.heap.size w W:=by rw [hW];exact qBl
 have c0:W.cell? ⟨X,0,none⟩=some (.int .i64 n):=by rw [hW,← hX];simp
 have c1:W.cell? ⟨X,1,none⟩=some (.slice a l.length c):=by rw [hW,← hX];simp
 have r0:W.cell? ⟨X+1,0,none⟩=some (.int .i64 0):=by rw [hW,← hX];simp
 have r1:W.cell? ⟨X+1,1,none⟩=some (.slice none 0 0):=by rw [hW,← hX];simp
 have f0:W.frozen? ⟨X+1,0,none⟩=false:=by rw [hW,← hX];simp
 have f1:W.frozen? ⟨X+1,1,none⟩=false:=by rw [hW,← hX];simp
 have hzX:X+1<W.heap.size:=by rw [hW,← hX];simp
 have hzX':X<W.heap.size:=qO;rw [hX,← hW];have pW:=hs.below bW;clear hW
 go_loud (go_region_law (refine zaen legI (.tmp 5) (.tmp 7) (by rfl) (by rfl) W.heap.size _ [] l a c (by rfl) (KOwn.lit _ _ qP) (by rfl) (pW.below (by repeat (first|exact Below.refl _ _|refine Below.drew ?_|refine Below.alloc ?_ (by first|omega|(simp;omega)) _))) qP qO qP ?_;rintro av cv w1 o1 - b1 -;have b2:Below W.heap.size W w1:=Below.trans (by repeat (first|exact Below.refl _ _|refine Below.drew ?_|refine Below.alloc ?_ (by first|omega|(simp;omega)) _)) b1;have p0:=(b2.cell (p:=⟨X,0,none⟩) (by show X<_;omega)).trans c0;have p1:=(b2.cell (p:=⟨X,1,none⟩) (by show X<_;omega)).trans c1;have q0:=(b2.cell (p:=⟨X+1,0,none⟩) hzX).trans r0;have q1:=(b2.cell (p:=⟨X+1,1,none⟩) hzX).trans r1;have g0:=(b2.frozen (p:=⟨X+1,0,none⟩) hzX).trans f0;have g1:=(b2.frozen (p:=⟨X+1,1,none⟩) hzX).trans f1;clear b1))
 all_goals
  clear c0 c1 r0 r1 f0 f1;have hz2:W.heap.size≤w1.heap.size:=b2.size
  have bF:Below w.heap.size w ((w1.setCell ⟨X+1,0,none⟩ (.int .i64 n)).setCell ⟨X+1,1,none⟩ (.slice av l.length cv)) :=
   ((bW.trans (b2.mono bW.size)).setCell (by show _≤X+1;omega) _).setCell (by show _≤X+1;omega) _
  have oF:=((o1.setCell (p:=⟨X+1,0,none⟩) hzX (.int .i64 n)).setCell (p:=⟨X+1,1,none⟩) hzX (.slice av l.length cv)).mono bW.size
  go_wp2
  exact bodyPost_ret (v:=.agg #[.int .i64 n,.slice av l.length cv]) (by simp [results,Tryz.results83,go_sem,q0,q1]) rfl ⟨_,rfl,oF,bF⟩
set_option maxHeartbeats 2000000
theorem zai3 (g:Lg) (w:World) (h:legOk 6 g=true) :
 Calls Tryz.prog 102 #[g.val] w fun e w'=>e=.returned (legBack g).val∧Below w.heap.size w w':=by
 obtain ⟨hr1,hr2,hr3,hr4,hr5⟩:=zaaq qO h;obtain ⟨x1,x2,x3,x4,x5⟩:=g;simp only at hr1 hr2 hr3 hr4 hr5
 show Calls Tryz.prog 102 #[.agg #[.int .i64 x1,.int .i64 x2,.int .i64 x3,.int .i64 x4,.int .i64 x5]] w _
 obtain ⟨hr3,hr3'⟩:=hr3;obtain ⟨hr4,hr4'⟩:=hr4;obtain ⟨hr5,hr5'⟩:=hr5;clear hr1 hr2 h
 go_enter Tryz.func102,Tryz.ntmps102
 go_wp2
 exact bodyPost_ret (v:=.agg #[.int .i64 x2,.int .i64 x1,.int .i64 (-x3),.int .i64 (-x4),.int .i64 (-x5)]) (by simp [results,Tryz.results102,go_sem]) rfl ⟨rfl,qBl⟩
theorem zad4 (g:Lg) (w:World) (h:legOk 6 g=true) :
 Calls Tryz.prog 126 #[g.val] w fun e w'=>e=.returned (legBack g).val∧Below w.heap.size w w':=by
 obtain ⟨hr1,hr2,hr3,hr4,hr5⟩:=zaaq qO h;obtain ⟨x1,x2,x3,x4,x5⟩:=g;simp only at hr1 hr2 hr3 hr4 hr5
 show Calls Tryz.prog 126 #[.agg #[.int .i64 x1,.int .i64 x2,.int .i64 x3,.int .i64 x4,.int .i64 x5]] w _
 obtain ⟨hr3,hr3'⟩:=hr3;obtain ⟨hr4,hr4'⟩:=hr4;obtain ⟨hr5,hr5'⟩:=hr5;clear hr1 hr2 h
 go_enter Tryz.func126,Tryz.ntmps126
 go_wp2
 exact bodyPost_ret (v:=.agg #[.int .i64 x2,.int .i64 x1,.int .i64 (-x3),.int .i64 (-x4),.int .i64 (-x5)]) (by simp [results,Tryz.results126,go_sem]) rfl ⟨rfl,qBl⟩
theorem zabh (a:Option Addr) (n c:Nat) (st kind:Int) (w:World) (hn:n≤1048576) :
 Calls Tryz.prog 99 #[.agg #[.int .i64 st,.slice a n c],.int .i64 kind] w fun e w'=>e=.returned (.int .i64 (if kind=0 then (n:Int)+1 else n))∧Below w.heap.size w w':=by
 by_cases h:kind=0
 · subst h
   go_enter Tryz.func99,Tryz.ntmps99
   go_wp2
   go_ret
   exact ⟨by simp,qBl⟩
 · have h':decide (kind=0)=false:=by simpa using h
   go_enter Tryz.func99,Tryz.ntmps99
   go_wp2
   go_ret
   exact ⟨by simp,qBl⟩
def legEq (x1 x2 x3 x4 x5 y1 y2 y3 y4 y5:Int):Bool:=decide (x1=y1) && (decide (x2=y2) && (decide (x3=y3) && (decide (x4=y4) && decide (x5=y5))))
theorem zafy (x1 x2 x3 x4 x5 y1 y2 y3 y4 y5:Int) (w:World):(binOp .eql 75 (.agg #[.int .i64 x1,.int .i64 x2,.int .i64 x3,.int .i64 x4,.int .i64 x5]) (.agg #[.int .i64 y1,.int .i64 y2,.int .i64 y3,.int .i64 y4,.int .i64 y5])).run Tryz.prog w=.ok (.bool (legEq x1 x2 x3 x4 x5 y1 y2 y3 y4 y5)) w:=by
 by_cases h1:x1=y1 <;> by_cases h2:x2=y2 <;> by_cases h3:x3=y3 <;> by_cases h4:x4=y4 <;> by_cases h5:x5=y5 <;> (go_simp;simp [legEq,h1,h2,h3,h4,h5])
theorem zah0 (x1 x2 x3 x4 x5 y1 y2 y3 y4 y5:Int) (w:World):(binOp .neq 75 (.agg #[.int .i64 x1,.int .i64 x2,.int .i64 x3,.int .i64 x4,.int .i64 x5]) (.agg #[.int .i64 y1,.int .i64 y2,.int .i64 y3,.int .i64 y4,.int .i64 y5])).run Tryz.prog w=.ok (.bool (!legEq x1 x2 x3 x4 x5 y1 y2 y3 y4 y5)) w:=by
 by_cases h1:x1=y1 <;> by_cases h2:x2=y2 <;> by_cases h3:x3=y3 <;> by_cases h4:x4=y4 <;> by_cases h5:x5=y5 <;> (go_simp;simp [legEq,h1,h2,h3,h4,h5])
theorem zacx (g h:Lg):legEq g.frm g.to g.east g.north g.up h.frm h.to h.east h.north h.up=decide (g=h):=by
 obtain ⟨x1,x2,x3,x4,x5⟩:=g;obtain ⟨y1,y2,y3,y4,y5⟩:=h;rw [Bool.eq_iff_iff]
 simp [legEq]
theorem zapw (g:Lg):legEq g.frm g.to g.east g.north g.up 0 0 0 0 0=decide (g=noLeg):=zacx g noLeg
theorem zaaw (d:Dd) (w:World) :
 Calls Tryz.prog 97 #[d.val] w fun e w'=>e=.returned (.bool (ddFits d))∧Below w.heap.size w w':=by
 have HN:=Lib.hid (zapw d.leg);obtain ⟨kd,ix,⟨x1,x2,x3,x4,x5⟩⟩:=d;simp only at HN
 show Calls Tryz.prog 97 #[.agg #[.int .i64 kd,.int .i64 ix,.int .i64 x1,.int .i64 x2,.int .i64 x3,.int .i64 x4,.int .i64 x5]] w _
 by_cases h0:kd=0
 · subst h0
   go_enter Tryz.func97,Tryz.ntmps97
   go_wp2
   go_ret
   exact ⟨by simp [ddFits],qBl⟩
 by_cases h3:kd=3
 · subst h3
   go_enter Tryz.func97,Tryz.ntmps97
   go_wp2
   go_ret
   exact ⟨by simp [ddFits],qBl⟩
 have hE:=zafy x1 x2 x3 x4 x5 0 0 0 0 0
 by_cases h1:kd=1
 · subst h1
   go_enter Tryz.func97,Tryz.ntmps97
   go_wp2
   go_ret
   exact ⟨by simp [ddFits,← HN.out],qBl⟩
 by_cases h2:kd=2
 · subst h2
   go_enter Tryz.func97,Tryz.ntmps97
   go_wp2
   go_ret
   exact ⟨by simp [ddFits,← HN.out],qBl⟩
 by_cases h4:kd=4
 · subst h4
   cases hx:legEq x1 x2 x3 x4 x5 0 0 0 0 0
   · go_enter Tryz.func97,Tryz.ntmps97
     go_wp2
     go_ret
     exact ⟨by simp [ddFits,← HN.out,hx],qBl⟩
   · go_enter Tryz.func97,Tryz.ntmps97
     go_wp2
     go_ret
     exact ⟨by simp [ddFits,← HN.out,hx];rfl,qBl⟩
 by_cases h5:kd=5
 · subst h5
   cases hx:legEq x1 x2 x3 x4 x5 0 0 0 0 0
   · go_enter Tryz.func97,Tryz.ntmps97
     go_wp2
     go_ret
     exact ⟨by simp [ddFits,← HN.out,hx],qBl⟩
   · go_enter Tryz.func97,Tryz.ntmps97
     go_wp2
     go_ret
     exact ⟨by simp [ddFits,← HN.out,hx];rfl,qBl⟩
 · go_enter Tryz.func97,Tryz.ntmps97
   go_wp2
   go_ret
   exact ⟨by simp [ddFits,h0,h1,h2,h3,h4,h5],qBl⟩
def ddIn (d:Dd):Bool:=inB d.kind 0 5 && inB d.index 0 9 && (!(decide (d.kind=4) || decide (d.kind=5)) || decide (d.index=0)) && (if d.kind=0∨d.kind=3 then legOk 6 d.leg else decide (d.leg=noLeg))
theorem zaa5 (d:Dd) (w:World) :
 Calls Tryz.prog 130 #[d.val] w fun e w'=>e=.returned (.bool (ddIn d))∧Below w.heap.size w w':=by
 have HN:=Lib.hid (zapw d.leg);obtain ⟨kd,ix,⟨x1,x2,x3,x4,x5⟩⟩:=d;simp only at HN
 show Calls Tryz.prog 130 #[.agg #[.int .i64 kd,.int .i64 ix,.int .i64 x1,.int .i64 x2,.int .i64 x3,.int .i64 x4,.int .i64 x5]] w _
 cases h1:inB kd 0 5
 · have hk:kd≠0∧kd≠3∧kd≠4∧kd≠5:=by simp [inB] at h1;omega
   obtain ⟨h0,h3,h4,h5⟩:=hk
   go_enter Tryz.func130,Tryz.ntmps130
   go_wp2_with (go_at_call 85;refine (zaac _ _ _ _).mono ?_;rintro e w' ⟨rfl,rfl⟩)
   go_ret
   exact ⟨by simp [ddIn,h1],qBl⟩
 cases h2:inB ix 0 9
 · by_cases h0:kd=0
   · subst h0
     go_enter Tryz.func130,Tryz.ntmps130
     go_wp2_with (go_at_call 85;refine (zaac _ _ _ _).mono ?_;rintro e w' ⟨rfl,rfl⟩)
     go_ret
     exact ⟨by simp [ddIn,h2],qBl⟩
   by_cases h4:kd=4
   · subst h4
     go_enter Tryz.func130,Tryz.ntmps130
     go_wp2_with (go_at_call 85;refine (zaac _ _ _ _).mono ?_;rintro e w' ⟨rfl,rfl⟩)
     go_ret
     exact ⟨by simp [ddIn,h2],qBl⟩
   go_enter Tryz.func130,Tryz.ntmps130
   go_wp2_with (go_at_call 85;refine (zaac _ _ _ _).mono ?_;rintro e w' ⟨rfl,rfl⟩)
   go_ret
   exact ⟨by simp [ddIn,h2],qBl⟩
 have hk:kd=0∨kd=1∨kd=2∨kd=3∨kd=4∨kd=5:=by simp [inB] at h1;omega
 have hE:=zafy x1 x2 x3 x4 x5 0 0 0 0 0
 rcases hk with rfl|rfl|rfl|rfl|rfl|rfl
 · cases hv:legOk 6 ⟨x1,x2,x3,x4,x5⟩
   · clear hE
     go_enter Tryz.func130,Tryz.ntmps130
     go_wp2_with (first|(go_at_call 85;refine (zaac _ _ _ _).mono ?_;rintro e w' ⟨rfl,rfl⟩)|(go_at_call 84;refine (zabn 6 ⟨x1,x2,x3,x4,x5⟩ _).mono ?_;rintro e w' ⟨rfl,hb⟩;rw [hv]))
     go_ret
     exact ⟨by simp [ddIn,hv],Below.trans qBl (hb.mono qP)⟩
   · clear hE
     go_enter Tryz.func130,Tryz.ntmps130
     go_wp2_with (first|(go_at_call 85;refine (zaac _ _ _ _).mono ?_;rintro e w' ⟨rfl,rfl⟩)|(go_at_call 84;refine (zabn 6 ⟨x1,x2,x3,x4,x5⟩ _).mono ?_;rintro e w' ⟨rfl,hb⟩;rw [hv]))
     go_ret
     exact ⟨by simp [ddIn,h1,h2,hv],Below.trans qBl (hb.mono qP)⟩
 · go_enter Tryz.func130,Tryz.ntmps130
   go_wp2_with (first|(go_at_call 85;refine (zaac _ _ _ _).mono ?_;rintro e w' ⟨rfl,rfl⟩))
   all_goals
    go_ret
    exact ⟨by simp [ddIn,h1,h2,← HN.out],qBl⟩
 · go_enter Tryz.func130,Tryz.ntmps130
   go_wp2_with (first|(go_at_call 85;refine (zaac _ _ _ _).mono ?_;rintro e w' ⟨rfl,rfl⟩))
   all_goals
    go_ret
    exact ⟨by simp [ddIn,h1,h2,← HN.out],qBl⟩
 · cases hv:legOk 6 ⟨x1,x2,x3,x4,x5⟩
   · clear hE
     go_enter Tryz.func130,Tryz.ntmps130
     go_wp2_with (first|(go_at_call 85;refine (zaac _ _ _ _).mono ?_;rintro e w' ⟨rfl,rfl⟩)|(go_at_call 84;refine (zabn 6 ⟨x1,x2,x3,x4,x5⟩ _).mono ?_;rintro e w' ⟨rfl,hb⟩;rw [hv]))
     go_ret
     exact ⟨by simp [ddIn,hv],Below.trans qBl (hb.mono qP)⟩
   · clear hE
     go_enter Tryz.func130,Tryz.ntmps130
     go_wp2_with (first|(go_at_call 85;refine (zaac _ _ _ _).mono ?_;rintro e w' ⟨rfl,rfl⟩)|(go_at_call 84;refine (zabn 6 ⟨x1,x2,x3,x4,x5⟩ _).mono ?_;rintro e w' ⟨rfl,hb⟩;rw [hv]))
     go_ret
     exact ⟨by simp [ddIn,h1,h2,hv],Below.trans qBl (hb.mono qP)⟩
 · by_cases hi:ix=0
   · subst hi
     go_enter Tryz.func130,Tryz.ntmps130
     go_wp2_with (first|(go_at_call 85;refine (zaac _ _ _ _).mono ?_;rintro e w' ⟨rfl,rfl⟩))
     all_goals
      go_ret
      exact ⟨by simp [ddIn,h1,h2,← HN.out],qBl⟩
   · go_enter Tryz.func130,Tryz.ntmps130
     go_wp2_with (first|(go_at_call 85;refine (zaac _ _ _ _).mono ?_;rintro e w' ⟨rfl,rfl⟩))
     all_goals
      go_ret
      exact ⟨by simp [ddIn,hi],qBl⟩
 · by_cases hi:ix=0
   · subst hi
     go_enter Tryz.func130,Tryz.ntmps130
     go_wp2_with (first|(go_at_call 85;refine (zaac _ _ _ _).mono ?_;rintro e w' ⟨rfl,rfl⟩))
     all_goals
      go_ret
      exact ⟨by simp [ddIn,h1,h2,← HN.out],qBl⟩
   · go_enter Tryz.func130,Tryz.ntmps130
     go_wp2_with (first|(go_at_call 85;refine (zaac _ _ _ _).mono ?_;rintro e w' ⟨rfl,rfl⟩))
     all_goals
      go_ret
      exact ⟨by simp [ddIn,hi],qBl⟩
set_option maxHeartbeats 1000000
set_option maxRecDepth 100000
theorem zafz {P:Program} (w:World) {ops:Array Oper} {rest:List Oper} {o:Oper} {a:Act} {Q:Exit→Act→World→Prop} (hgd:o.guard=none) (d s:Operand) (t t':TypeId)
 (ho:o.op=.call { callee:=.builtin .copy,args:=#[d,s],argTypes:=#[t,t'] }) (v u:Value) (hd:a.eval d=v) (hs:a.eval s=u) {v':Value} {w':World}
 (hr:(Builtin.copy_ #[t,t'] o.type #[v,u]).run P w=.ok v' w') (h:wpList P ops Q rest (a.put o.dst v') w'):wpList P ops Q (o :: rest) a w:=by
 refine wpList_plain hgd fun K hK=>?_
 unfold Oper.wp execOp;simp only [ho,resolve,invoke,builtin,Sem.run_bind,Sem.run_pure,Result.andThen_ok,List.map_toArray,List.map_cons,List.map_nil,hd,hs,hr]
 exact hK _ _ h
theorem zalv {P:Program} (w:World) {ops:Array Oper} {rest:List Oper} {o:Oper} {a:Act} {Q:Exit→Act→World→Prop} (hgd:o.guard=none) (d s:Operand) (t t':TypeId)
 (ho:o.op=.call { callee:=.builtin .append,args:=#[d,s],argTypes:=#[t,t'] }) (v u:Value) (hd:a.eval d=v) (hs:a.eval s=u) {v':Value} {w':World}
 (hr:(Builtin.append_ #[t,t'] o.type #[v,u]).run P w=.ok v' w') (h:wpList P ops Q rest (a.put o.dst v') w'):wpList P ops Q (o :: rest) a w:=by
 refine wpList_plain hgd fun K hK=>?_
 unfold Oper.wp execOp;simp only [ho,resolve,invoke,builtin,Sem.run_bind,Sem.run_pure,Result.andThen_ok,List.map_toArray,List.map_cons,List.map_nil,hd,hs,hr]
 exact hK _ _ h
theorem zahc {P:Program} {ops:Array Oper} {o:Oper} {a:Act} {w:World} {K:Act→World→Prop} {Q:Exit→Act→World→Prop} {E:Prop}
 (hg:o.guard=none) (d x:Operand) (dT sT:TypeId) (hop:o.op=Op.call { callee:=Callee.builtin Builtin.copy,args:=#[d,x],argTypes:=#[dT,sT] })
 (v u:Value) (hd:a.eval d=v) (hx:a.eval x=u) {v':Value} {w':World} (hr:(Builtin.copy_ #[dT,sT] o.type #[v,u]).run P w=.ok v' w') (hK:K (a.put o.dst v') w') :
 if Region.wanted o (yielded ops a.tmps)=true then Oper.wp P o a w K Q else E:=by
 have hw:Region.wanted o (yielded ops a.tmps)=true:=by simp [Region.wanted,hg]
 rw [if_pos hw];unfold Oper.wp
 simp [execOp,hop,resolve,invoke,builtin,hd,hx,hr,Result.andThen]
 exact hK
def InsRet (B:Nat) (a:Option Addr) (w:World) (zs:List Lg) (e:Ending) (w':World):Prop:=∃ av cv,e=.returned (.slice av zs.length cv)∧OwnL w' B (.slice av zs.length cv) zs∧w.grownBy w' (Value.slice a 0 0).ownBlock ∧
 ∀ k,(Value.slice av zs.length cv).ownBlock=some k→(Value.slice a 0 0).ownBlock=some k∨w.heap.size≤k
theorem zac9 (a:Option Addr) (n c n' c':Nat):(Value.slice a n c).ownBlock=(Value.slice a n' c').ownBlock:=by cases a <;> rfl
theorem zalw {w w':World} {row:Option Nat} (h:Below w.heap.size w w'):w.grownBy w' row:=⟨h.os,h.tape,h.output,h.size,fun k hk _=>h.block k hk⟩
theorem zabx {g:Nat}:∀ (vs:List Value) (o:Nat) (w:World),(w.setCells g o vs).os=w.os∧(w.setCells g o vs).tape=w.tape∧(w.setCells g o vs).output=w.output∧(w.setCells g o vs).heap.size=w.heap.size∧∀ k,k≠g→(w.setCells g o vs).heap[k]?=w.heap[k]?
 | [],_,_=>⟨rfl,rfl,rfl,rfl,fun _ _=>rfl⟩
 | v :: r,o,w=>by
   rw [World.setCells];obtain ⟨h1,h2,h3,h4,h5⟩:=zabx (g:=g) r (o+1) (w.setCell ⟨g,o,none⟩ v)
   exact ⟨h1,h2,h3,by rw [h4];simp [World.setCell],fun k hk=>by rw [h5 k hk];exact Deep.blk_setCell_other _ _ _ _ hk⟩
theorem zada {w w':World} {g:Nat} (h:w.grownBy w' (some g)) (o:Nat) (vs:List Value):w.grownBy (w'.setCells g o vs) (some g):=by
 obtain ⟨h1,h2,h3,h4,h5⟩:=zabx (g:=g) vs o w'
 exact ⟨h1.trans h.os,h2.trans h.tape,h3.trans h.output,by rw [h4];exact h.size,fun k hk hn=>(h5 k (fun e=>hn (by rw [e]))).trans (h.block k hk hn)⟩
theorem zakt {w w':World} {row:Option Nat} (h:w.grownBy w' row):w.grownBy w'.drew row:=⟨h.os,h.tape,h.output,h.size,h.block⟩
theorem zany (B:Nat) (a:Option Addr) (c:Nat) (xs:List Lg) (x:Lg) (vb:Nat) (w:World) (hown:OwnL w B (.slice a xs.length c) xs) (hl:xs.length≤1048576) (hx:Legs w (some ⟨vb,0,none⟩) [x]) (hB:B≤w.heap.size) :
 Calls Tryz.prog 100 #[.slice a xs.length c,.int .i64 (xs.length:Int),.slice (some ⟨vb,0,none⟩) 1 1] w (InsRet B a w (xs ++ [x])):=by
 obtain ⟨a',c',e,hle,hm,-⟩:=hown.form
 cases e
 have hc63:c≤9223372036854775807:=by unfold maxLen at hm;omega
 clear hm
 go_enter Tryz.func100,Tryz.ntmps100
 cases a with
 | none =>
   go_wp2_with (at_builtin;refine zaaj legI _ _ rfl rfl B _ xs [x] _ 1 rfl hown rfl hx qO qP hB ?_;rintro av cv w1 o1 g1 - n1)
   all_goals
    go_ret
    exact ⟨av,cv,by rw [show (xs ++ [x]).length=xs.length+1 by simp];rfl,o1,g1,fun k hk=>by rcases n1 with n1|n1 <;> rw [n1] at hk <;> first|exact .inl hk|(cases hk;exact .inr (Nat.le_refl _))⟩
 | some ad =>
   obtain ⟨ab,ao,asp⟩:=ad
   go_wp2_with (at_builtin;refine zaaj legI _ _ rfl rfl B _ xs [x] _ 1 rfl hown rfl hx qO qP hB ?_;rintro av cv w1 o1 g1 - n1)
   all_goals
    go_ret
    exact ⟨av,cv,by rw [show (xs ++ [x]).length=xs.length+1 by simp];rfl,o1,g1,fun k hk=>by rcases n1 with n1|n1 <;> rw [n1] at hk <;> first|exact .inl hk|(cases hk;exact .inr (Nat.le_refl _))⟩
theorem zase (xs:List Lg) (i:Nat) (x:Lg) (hi:i≤xs.length) (k:Nat) (hk:k<xs.length+1):nth (xs.take i ++ x :: xs.drop i) k=if k<i then nth xs k else if k=i then x else nth xs (k - 1):=by
 have hl:(xs.take i).length=i:=by simp;omega
 by_cases h1:k<i
 · rw [if_pos h1,zaam qO,zabt h1]
 · rw [if_neg h1,zaay qO,hl]
   by_cases h2:k=i
   · subst h2;simp [nth]
   · rw [if_neg h2]
     obtain ⟨m,rfl⟩:∃ m,k=i+(m+1):=⟨k - i - 1,by omega⟩;rw [show i+(m+1) - i=m+1 by omega]
     show nth (xs.drop i) m=_
     rw [zaba];rfl
theorem zalx (B g cap:Nat) (xs:List Lg) (x:Lg) (i vb:Nat) (w:World) (hBg:B≤g) (hcap:xs.length+1≤cap) (hcm:cap≤maxLen) (hrow:KRow legK 75 w g cap (fun k=>if k<xs.length then some (nth xs k) else none)) (hi:i<xs.length) (hl:xs.length≤1048576)
 (hx:KRow legK 75 w vb 1 (fun _=>some x)) (hne:vb≠g) :
 Calls Tryz.prog 100 #[.slice (some ⟨g,0,none⟩) xs.length cap,.int .i64 (i:Int),.slice (some ⟨vb,0,none⟩) 1 1] w (InsRet B (some ⟨g,0,none⟩) w (xs.take i ++ x :: xs.drop i)):=by
 have hlen:(xs.take i ++ x :: xs.drop i).length=xs.length+1:=by simp;omega
 have hr1:Legs w.drew (some ⟨g,i*5,none⟩) (xs.drop i):=by
  have:=hrow.drew.rd i (xs.drop i) (by simp;omega) (fun k hk=>by simp at hk;rw [if_pos qO,zaba])
  exact this
 have hcp1:(Builtin.copy_ #[23,23] 3 #[.slice (some ⟨g,(i+1)*5,none⟩) (xs.length - i) (cap - (i+1)),.slice (some ⟨g,i*5,none⟩) (xs.length+1 - i) (cap - i)]).run Tryz.prog w.drew=.ok (goInt (xs.drop i).length) (w.drew.setCells g ((i+1)*legK.sz) (legK.flat (xs.drop i))):=zaf1 legI _ hrow.drew (i+1) (xs.length - i) _ (xs.length+1 - i) _ (xs.drop i) hr1 (by rw [List.length_drop];show _=min _ _;omega) (by simp;omega);have hrow1:=hrow.drew.put (i+1) (xs.drop i);have hx1:=(hx.drew).setCellsOther (g':=g) hne ((i+1)*legK.sz) (legK.flat (xs.drop i));have bW1:w.grownBy (w.drew.setCells g ((i+1)*legK.sz) (legK.flat (xs.drop i))) (some g):=zada (zakt (World.grownBy.refl w _)) _ _;obtain ⟨W1,hW1⟩:=qM (w.drew.setCells g ((i+1)*legK.sz) (legK.flat (xs.drop i)));rw [← hW1] at hrow1 hx1 bW1;rw [← hW1] at hcp1
 have hr2:Legs W1 (some ⟨vb,0,none⟩) [x]:=by
  have:=hx1.rd 0 [x] qP (fun k hk=>by simp at hk;subst hk;rfl)
  exact this
 have hcp2:(Builtin.copy_ #[23,23] 3 #[.slice (some ⟨g,i*5,none⟩) (xs.length+1 - i) (cap - i),.slice (some ⟨vb,0,none⟩) 1 1]).run Tryz.prog W1=.ok (goInt [x].length) (W1.setCells g (i*legK.sz) (legK.flat [x])):=zaf1 legI _ hrow1 i (xs.length+1 - i) _ 1 1 [x] hr2 (by show 1=min _ _;omega) (by simp;omega);have hrow2:=hrow1.put i [x];have bW2:w.grownBy (W1.setCells g (i*legK.sz) (legK.flat [x])) (some g):=zada bW1 _ _;obtain ⟨W2,hW2⟩:=qM (W1.setCells g (i*legK.sz) (legK.flat [x]));rw [← hW2] at hrow2 bW2;rw [← hW2] at hcp2
 have hfin:OwnL W2 B (.slice (some ⟨g,0,none⟩) (xs.take i ++ x :: xs.drop i).length cap) (xs.take i ++ x :: xs.drop i):=by
  refine hrow2.own hBg _ qO hcm fun k hk=>?_
  rw [hlen] at hk;rw [zase xs i x qO k hk];simp only [List.length_cons,List.length_nil,List.length_drop]
  by_cases h1:k<i
  · rw [if_neg qO,if_neg qO,if_pos qO,if_pos h1]
  · by_cases h2:k=i
    · subst h2;rw [if_pos qO,if_neg h1,if_pos rfl];simp [nth]
    · rw [if_neg qO,if_pos qO,if_neg h1,if_neg h2,zaba];congr 2;omega
 have hsz:∀ w,(Go.sizeOf 75).run Tryz.prog w=.ok 5 w:=by
  obtain ⟨i0,hi,hz0,hz1,hz2⟩:=info_parts zalu;intro w;simp [sizeOf,typeInfo,hi,hz1]
 have hov:∀ lb cb,(callFunc 139 #[.slice (some ⟨vb,0,none⟩) 1 1,.slice (some ⟨g,(i+1)*5,none⟩) lb cb]).run Tryz.prog w=.ok (.value (.bool false)) w:=fun lb cb=>by
  rw [run_callFunc_extern Tryz.func139 (by kernel_rfl) (by kernel_rfl) (by kernel_rfl) (e:=Extern.SlicesOverlaps.overlaps #[23,23] #[4]) (by kernel_rfl),
   Lib.run_overlaps_apart w 23 4 75 Tryz.underlying23 5 hsz ⟨vb,0,none⟩ ⟨g,(i+1)*5,none⟩ 1 1 lb cb hne _ _ _ _ hx.shape hrow.shape (by have:legK.sz=5:=rfl;rw [this];omega) (hx.free _) (hx.free _)]
  rfl
 have hw1:IntKind.i64.wrap ((i:Int)+1)=(i:Int)+1:=by rw [IntKind.wrap_i64];omega
 have HF:=Lib.hid hfin;have HLN:=Lib.hid hlen
 have hc63:cap≤9223372036854775807:=by unfold maxLen at hcm;omega
 have hz2:¬ ((i:Int)=(xs.length:Int)):=qO;have hb1:(0:Int)≤(i:Int)+1:=qO;have htn:((i:Int)+1).toNat=i+1:=qO;have hb2:¬ (cap=i+1):=qO;have hb3:(i:Int)≤(xs.length:Int)+1:=qO;have hb4:¬ (cap=i):=qO;have hb5:i≤xs.length:=qO;clear hrow2 hrow1 hx1 hr1 hr2 hfin hlen hW1 hW2 hcm;clear hrow hx hne
 go_enter Tryz.func100,Tryz.ntmps100
 go_wp2_with (simp only [hov])
 go_region_law (refine zahc rfl (.tmp 73) (.tmp 76) 23 23 rfl (.slice (some ⟨g,(i+1)*5,none⟩) (xs.length - i) (cap - (i+1))) (.slice (some ⟨g,i*5,none⟩) (xs.length+1 - i) (cap - i)) (by simp [Act.eval,Act.put]) (by simp [Act.eval,Act.put]) (by with_reducible exact hcp1) ?_)
 all_goals
  go_wp2_with (at_builtin;refine zafz _ rfl (.tmp 80) (.tmp 81) 23 23 rfl _ _ rfl rfl hcp2 ?_)
  go_ret
  exact ⟨_,cap,by rw [HLN.out];rfl,HF.out,bW2,fun k hk=>.inl hk⟩
theorem zaly (B g:Nat) (xs:List Lg) (x:Lg) (i vb:Nat) (w:World) (hB:B≤w.heap.size) (_hcm:xs.length≤maxLen) (hrow:KRow legK 75 w g xs.length (fun k=>if k<xs.length then some (nth xs k) else none)) (hi:i<xs.length) (hl:xs.length≤1048576)
 (hx:KRow legK 75 w vb 1 (fun _=>some x)) :
 Calls Tryz.prog 100 #[.slice (some ⟨g,0,none⟩) xs.length xs.length,.int .i64 (i:Int),.slice (some ⟨vb,0,none⟩) 1 1] w (InsRet B (some ⟨g,0,none⟩) w (xs.take i ++ x :: xs.drop i)):=by
 have hlen:(xs.take i ++ x :: xs.drop i).length=xs.length+1:=by simp;omega
 have hlt:(xs.take i).length=i:=by simp;omega
 obtain ⟨c2,hc2,hm2,w2,hrun,hrow2,bw2⟩:=zatf (kq:=.i64) legI (ti:=3) (kn:=.i64) Tryz.underlying3 23 hrow i (xs.length+1 - i) (xs.take i) qO qO hlt (fun k hk=>by rw [if_pos qO,zabt hk]) qO qO
 rw [show i+(xs.length+1 - i)=xs.length+1 by omega] at hrun hc2;have ecast:((xs.length+1 - i:Nat):Int)=(xs.length:Int)+1 - (i:Int):=qO;rw [ecast] at hrun;clear ecast;obtain ⟨G,hG⟩:=qM (w.heap.size);rw [← hG] at hrun hrow2
 have hgG:g<G:=by rw [hG];exact hrow.lt
 have hvG:vb<G:=by rw [hG];exact hx.lt
 have hBG:B≤G:=qO;have bW:Below w.heap.size w w2:=bw2;have hwG:w.heap.size≤G:=qO;have hrow3:=hrow.below bw2;have hx3:=hx.below bw2;clear hG bw2 hrow hx
 have hr2:Legs w2 (some ⟨vb,0,none⟩) [x]:=by
  have:=hx3.rd 0 [x] qP (fun k hk=>by simp at hk;subst hk;rfl)
  exact this
 have hcp1:(Builtin.copy_ #[23,23] 3 #[.slice (some ⟨G,i*5,none⟩) (xs.length+1 - i) (c2 - i),.slice (some ⟨vb,0,none⟩) 1 1]).run Tryz.prog w2=.ok (goInt [x].length) (w2.setCells G (i*legK.sz) (legK.flat [x])):=zaf1 legI _ hrow2 i (xs.length+1 - i) _ 1 1 [x] hr2 (by show 1=min _ _;omega) (by simp;omega);have hrow4:=hrow2.put i [x];have hrow5:=hrow3.setCellsOther (g':=G) qO (i*legK.sz) (legK.flat [x]);have bW1:Below w.heap.size w (w2.setCells G (i*legK.sz) (legK.flat [x])):=zabp G hwG _ _ _ bW;obtain ⟨W1,hW1⟩:=qM (w2.setCells G (i*legK.sz) (legK.flat [x]));rw [← hW1] at hrow4 hrow5 bW1 hcp1
 have hr1:Legs W1.drew (some ⟨g,i*5,none⟩) (xs.drop i):=by
  have:=hrow5.drew.rd i (xs.drop i) (by simp;omega) (fun k hk=>by simp at hk;rw [if_pos qO,zaba])
  exact this
 have hcp2:(Builtin.copy_ #[23,23] 3 #[.slice (some ⟨G,(i+1)*5,none⟩) (xs.length - i) (c2 - (i+1)),.slice (some ⟨g,i*5,none⟩) (xs.length - i) (xs.length - i)]).run Tryz.prog W1.drew=.ok (goInt (xs.drop i).length) (W1.drew.setCells G ((i+1)*legK.sz) (legK.flat (xs.drop i))):=zaf1 legI _ hrow4.drew (i+1) (xs.length - i) _ (xs.length - i) _ (xs.drop i) hr1 (by rw [List.length_drop];show _=min _ _;omega) (by simp;omega);have hrow6:=hrow4.drew.put (i+1) (xs.drop i);have bW2:Below w.heap.size w (W1.drew.setCells G ((i+1)*legK.sz) (legK.flat (xs.drop i))):=zabp G hwG _ _ _ bW1.drew;obtain ⟨W2,hW2⟩:=qM (W1.drew.setCells G ((i+1)*legK.sz) (legK.flat (xs.drop i)));rw [← hW2] at hrow6 bW2 hcp2
 have hfin:OwnL W2 B (.slice (some ⟨G,0,none⟩) (xs.take i ++ x :: xs.drop i).length c2) (xs.take i ++ x :: xs.drop i):=by
  refine hrow6.own hBG _ qO hm2 fun k hk=>?_
  rw [hlen] at hk;rw [zase xs i x qO k hk];simp only [List.length_cons,List.length_nil,List.length_drop]
  by_cases h1:k<i
  · rw [if_neg qO,if_neg qO,if_pos h1,if_pos h1,zabt h1]
  · by_cases h2:k=i
    · subst h2;rw [if_neg qO,if_pos qO,if_neg h1,if_pos rfl];simp [nth]
    · rw [if_pos qO,if_neg h1,if_neg h2,zaba];congr 2;omega
 have hw1:IntKind.i64.wrap ((i:Int)+1)=(i:Int)+1:=by rw [IntKind.wrap_i64];omega
 have HF:=Lib.hid hfin;have HLN:=Lib.hid hlen
 have hc63:c2≤9223372036854775807:=by unfold maxLen at hm2;omega
 have hz2:¬ ((i:Int)=(xs.length:Int)):=qO;have hb1:(0:Int)≤(i:Int)+1:=qO;have htn:((i:Int)+1).toNat=i+1:=qO;have hb2:¬ (c2=i+1):=qO;have hb3:(i:Int)≤(xs.length:Int)+1:=qO;have hb4:¬ (c2=i):=qO;have hb5:i≤xs.length:=qO;have hb6:¬ (xs.length=i):=qO;clear hrow2 hrow3 hrow4 hrow5 hrow6 hx3 hr1 hr2 hfin hlen hlt hW1 hW2 _hcm hm2
 go_enter Tryz.func100,Tryz.ntmps100
 go_wp2_with (first
  | (at_builtin;refine zalv _ rfl (.tmp 34) (.tmp 39) 23 3 rfl _ _ rfl rfl hrun ?_)
  | (refine zafz _ rfl (.tmp 43) (.tmp 44) 23 23 rfl _ _ rfl rfl hcp1 ?_))
 go_region_law (refine zahc rfl (.tmp 50) (.tmp 53) 23 23 rfl (.slice (some ⟨G,(i+1)*5,none⟩) (xs.length - i) (c2 - (i+1))) (.slice (some ⟨g,i*5,none⟩) (xs.length - i) (xs.length - i)) (by simp [Act.eval,Act.put]) (by simp [Act.eval,Act.put]) (by with_reducible exact hcp2) ?_)
 all_goals
  go_wp2_with fail;go_ret
  exact ⟨_,c2,by rw [HLN.out];rfl,HF.out,zalw bW2,fun k hk=>by cases hk;exact .inr hwG⟩
theorem zanz (B:Nat) (a:Option Addr) (c:Nat) (xs:List Lg) (x:Lg) (i vb:Nat) (w:World) (hown:OwnL w B (.slice a xs.length c) xs) (hi:i≤xs.length) (hl:xs.length≤1048576)
 (hx:KRow legK 75 w vb 1 (fun _=>some x)) (hne:∀ g o,a=some ⟨g,o,none⟩→vb≠g) (hB:B≤w.heap.size) :
 Calls Tryz.prog 100 #[.slice a xs.length c,.int .i64 (i:Int),.slice (some ⟨vb,0,none⟩) 1 1] w (InsRet B a w (xs.take i ++ x :: xs.drop i)):=by
 by_cases h:i=xs.length
 · subst h
   rw [List.take_length,List.drop_length]
   exact zany B a c xs x vb w hown hl (hx.rd 0 [x] qP (fun k hk=>by simp at hk;subst hk;rfl)) hB
 · obtain ⟨g,cap,e,hBg,hn,hm,hrow⟩:=hown.krow qO
   cases e
   by_cases h2:xs.length+1≤c
   · exact zalx B g c xs x i vb w hBg h2 hm hrow qO hl hx (hne g 0 rfl)
   · obtain rfl:c=xs.length:=by omega
     exact zaly B g xs x i vb w hB hm hrow qO hl hx
theorem zatb (w:World):(zeroValue 75).run Tryz.prog w=.ok (.agg #[.int .i64 0,.int .i64 0,.int .i64 0,.int .i64 0,.int .i64 0]) w:=Tryz.zeroValue75 w
theorem zapx {P:Program} {ops:Array Oper} {o:Oper} {a:Act} {w:World} {K:Act→World→Prop} {Q:Exit→Act→World→Prop} {E:Prop}
 (hg:o.guard=none) (d x:Operand) (dT sT:TypeId) (hop:o.op=Op.call { callee:=Callee.builtin Builtin.append,args:=#[d,x],argTypes:=#[dT,sT] })
 (v u:Value) (hd:a.eval d=v) (hx:a.eval x=u) {v':Value} {w':World} (hr:(Builtin.append_ #[dT,sT] o.type #[v,u]).run P w=.ok v' w') (hK:K (a.put o.dst v') w') :
 if Region.wanted o (yielded ops a.tmps)=true then Oper.wp P o a w K Q else E:=by
 have hw:Region.wanted o (yielded ops a.tmps)=true:=by simp [Region.wanted,hg]
 rw [if_pos hw];unfold Oper.wp
 simp [execOp,hop,resolve,invoke,builtin,hd,hx,hr,Result.andThen]
 exact hK
theorem zax1 (xs:List Lg) (i:Nat) (hi:i<xs.length) (k:Nat) (_hk:k<xs.length - 1):nth (xs.take i ++ xs.drop (i+1)) k=if k<i then nth xs k else nth xs (k+1):=by
 have hl:(xs.take i).length=i:=by simp;omega
 by_cases h1:k<i
 · rw [if_pos h1,zaam qO,zabt h1]
 · rw [if_neg h1,zaay qO,hl,zaba];congr 1;omega
theorem zan0 (B g cap:Nat) (xs:List Lg) (i:Nat) (w:World) (hBg:B≤g) (hcap:xs.length≤cap) (hcm:cap≤maxLen) (hrow:KRow legK 75 w g cap (fun k=>if k<xs.length then some (nth xs k) else none)) (hi:i<xs.length) (hl:xs.length≤1048576) :
 Calls Tryz.prog 101 #[.slice (some ⟨g,0,none⟩) xs.length cap,.int .i64 (i:Int),.int .i64 ((i:Int)+1)] w (InsRet B (some ⟨g,0,none⟩) w (xs.take i ++ xs.drop (i+1))):=by
 have hlen:(xs.take i ++ xs.drop (i+1)).length=xs.length - 1:=by simp;omega
 obtain ⟨A,hA,hrA⟩:∃ A:Addr,(if cap=i+1 then (some ⟨g,0,none⟩:Option Addr) else some ⟨g,(i+1)*5,none⟩)=some A∧Legs w.drew (some A) (xs.drop (i+1)):=by
  by_cases h:cap=i+1
  · exact ⟨_,by rw [if_pos h],.inl (List.drop_eq_nil_of_le qO)⟩
  · refine ⟨_,by rw [if_neg h],?_⟩
    have:=hrow.drew.rd (i+1) (xs.drop (i+1)) (by simp;omega) (fun k hk=>by simp at hk;rw [if_pos qO,zaba])
    exact this
 have happ:(Builtin.append_ #[23,23] 23 #[.slice (some ⟨g,0,none⟩) i cap,.slice (some A) (xs.length - (i+1)) (cap - (i+1))]).run Tryz.prog w.drew=.ok (.slice (some ⟨g,0,none⟩) (i+(xs.length - (i+1))) cap) (w.drew.setCells g (i*legK.sz) (legK.flat (xs.drop (i+1)))):=zaux legI _ hrow.drew i _ _ (xs.drop (i+1)) hrA qP qO;have hrow1:=hrow.drew.put i (xs.drop (i+1));have bW1:w.grownBy (w.drew.setCells g (i*legK.sz) (legK.flat (xs.drop (i+1)))) (some g):=zada (zakt (World.grownBy.refl w _)) _ _;obtain ⟨W1,hW1⟩:=qM (w.drew.setCells g (i*legK.sz) (legK.flat (xs.drop (i+1))));rw [← hW1] at hrow1 bW1 happ;have hclr:=zate legI zatb rfl (by intro u hu;simp [Value.cells] at hu;rw [hu];rfl) 0 hrow1 (xs.length - 1) 1 (cap - (i+(xs.length - (i+1)))) qO qO;have hrow2:=hrow1.over (xs.length - 1) (Builtin.zeroCells (Value.agg #[.int .i64 0,.int .i64 0,.int .i64 0,.int .i64 0,.int .i64 0]).cells 1).toList;have bW2:w.grownBy (W1.setCells g ((xs.length - 1)*legK.sz) (Builtin.zeroCells (Value.agg #[.int .i64 0,.int .i64 0,.int .i64 0,.int .i64 0,.int .i64 0]).cells 1).toList) (some g):=zada bW1 _ _;obtain ⟨W2,hW2⟩:=qM (W1.setCells g ((xs.length - 1)*legK.sz) (Builtin.zeroCells (Value.agg #[.int .i64 0,.int .i64 0,.int .i64 0,.int .i64 0,.int .i64 0]).cells 1).toList);rw [← hW2] at hrow2 bW2 hclr
 have hfin:OwnL W2 B (.slice (some ⟨g,0,none⟩) (xs.take i ++ xs.drop (i+1)).length cap) (xs.take i ++ xs.drop (i+1)):=by
  refine hrow2.own hBg _ qO hcm fun k hk=>?_
  rw [hlen] at hk;rw [zax1 xs i hi k hk,if_pos hk];simp only [List.length_drop]
  by_cases h1:k<i
  · rw [if_neg qO,if_pos qO,if_pos h1]
  · rw [if_pos qO,if_neg h1,zaba];congr 2;omega
 have hclr2:(Builtin.clear_ #[23] 0 #[.slice (some ⟨g,(i+(xs.length - (i+1)))*5,none⟩) (xs.length - (i+(xs.length - (i+1)))) (cap - (i+(xs.length - (i+1))))]).run Tryz.prog W1=.ok (.tuple #[]) W2:=by
  have e1:xs.length - (i+(xs.length - (i+1)))=1:=qO;have e2:i+(xs.length - (i+1))=xs.length - 1:=qO;rw [e1];rw [e2] at hclr ⊢
  exact hclr
 have hw1:IntKind.i64.wrap ((i:Int)+1)=(i:Int)+1:=by rw [IntKind.wrap_i64];omega
 have HF:=Lib.hid hfin;have HLN:=Lib.hid hlen
 have hc63:cap≤9223372036854775807:=by unfold maxLen at hcm;omega
 have hz2:¬ ((i:Int)=(i:Int)+1):=qO;have hb1:(0:Int)≤(i:Int)+1:=qO;have htn:((i:Int)+1).toNat=i+1:=qO;have hb3:(i:Int)+1≤(xs.length:Int):=qO;have hb5:i≤cap:=qO;have hb6:i+1≤cap:=qO;have hb7:i+1≤xs.length:=qO;have HA:=Lib.hid hA;clear hrow2 hrow1 hrow hrA hA hclr hfin hlen hW1 hW2 hcm
 go_enter Tryz.func101,Tryz.ntmps101
 go_wp2_with fail
 go_region_law (refine zapx rfl (.tmp 22) (.tmp 25) 23 23 rfl (.slice (some ⟨g,0,none⟩) i cap) (.slice (some A) (xs.length - (i+1)) (cap - (i+1))) (by simp [Act.eval,Act.put]) (by simp [Act.eval,Act.put,HA.out]) (by with_reducible exact happ) ?_)
 all_goals
  go_wp2_with fail
  all_goals
   go_ret
   first
    | exact ⟨_,cap,by rw [HLN.out,show xs.length - 1=i+(xs.length - (i+1)) by omega];rfl,HF.out,bW2,fun k hk=>.inl hk⟩
    | (have hcc:cap=i+1:=by assumption
       subst hcc
       exact ⟨_,i+1,by rw [HLN.out,show xs.length - 1=i+(xs.length - (i+1)) by omega];rfl,HF.out,bW2,fun k hk=>.inl hk⟩)
theorem zan1 (B:Nat) (a:Option Addr) (c:Nat) (xs:List Lg) (i:Nat) (w:World) (hown:OwnL w B (.slice a xs.length c) xs) (hi:i<xs.length) (hl:xs.length≤1048576) :
 Calls Tryz.prog 101 #[.slice a xs.length c,.int .i64 (i:Int),.int .i64 ((i:Int)+1)] w (InsRet B a w (xs.take i ++ xs.drop (i+1))):=by
 obtain ⟨g,cap,e,hBg,hn,hm,hrow⟩:=hown.krow qO
 cases e
 exact zan0 B g c xs i w hBg hn hm hrow hi hl
open Go Go.RowKit
theorem zaoj (a b:Nat) (ha:a<9223372036854775808) (hb:b<9223372036854775808):bits .xor .i64 (a:Int) (b:Int)=((a ^^^ b:Nat):Int):=by
 have hx:a ^^^ b<2 ^ 63:=Nat.xor_lt_two_pow qO qO
 show IntKind.i64.wrap ((BitVec.ofInt 64 (a:Int) ^^^ BitVec.ofInt 64 (b:Int)).toNat:Int)=_
 rw [BitVec.toNat_xor,zadr qO,zadr qO,IntKind.wrap_i64]
 omega
def Bytes (w:World) (a:Option Addr) (n:Nat):Prop :=
 0<n→∃ b off,a=some ⟨b,off,none⟩∧b<w.heap.size∧∀ j,j<n→∃ x:Nat,x<256∧w.cell? ⟨b,off+j,none⟩=some (.int .u8 (x:Int))
theorem Bytes.below {w w':World} {a:Option Addr} {n:Nat} (h:Bytes w a n) (hb:Below w.heap.size w w'):Bytes w' a n:=fun hn=>by
 obtain ⟨b,off,e,hlt,hc⟩:=h hn
 refine ⟨b,off,e,Nat.lt_of_lt_of_le hlt hb.size,fun j hj=>?_⟩
 obtain ⟨x,hx,hc⟩:=hc j hj
 exact ⟨x,hx,by rw [hb.cell (p:=⟨b,off+j,none⟩) hlt];exact hc⟩
structure Rdr (w:World) (B:Nat) (a:Option Addr) (n c p:Nat):Prop where
 code:w.cell? ⟨B,0,none⟩=some (.slice a n c)
 at_:w.cell? ⟨B,1,none⟩=some (.int .i64 (p:Int))
 free:w.frozen? ⟨B,1,none⟩=false
 bytes:Bytes w a n
 apart:0<n→∀ b off,a=some ⟨b,off,none⟩→b≠B
 few:n≤2000
theorem Rdr.lt {w:World} {B:Nat} {a:Option Addr} {n c p:Nat} (h:Rdr w B a n c p):B<w.heap.size:=block_lt_of_cell h.code
theorem Rdr.below {w w':World} {B:Nat} {a:Option Addr} {n c p:Nat} (h:Rdr w B a n c p) (hb:Below w.heap.size w w'):Rdr w' B a n c p :=
 ⟨by rw [hb.cell (p:=⟨B,0,none⟩) h.lt];exact h.code,by rw [hb.cell (p:=⟨B,1,none⟩) h.lt];exact h.at_,by rw [World.frozen?_of_block (a:=⟨B,1,none⟩) (hb.block B h.lt)];exact h.free,h.bytes.below hb,h.apart,h.few⟩
theorem Rdr.ticked {w:World} {B:Nat} {a:Option Addr} {n c p:Nat} (h:Rdr w B a n c p):Rdr (w.setCell ⟨B,1,none⟩ (.int .i64 ((p+1:Nat):Int))) B a n c (p+1):=by
 refine ⟨?_,World.cell?_setCell_same _ _ _ h.at_,?_,fun hn=>?_,h.apart,h.few⟩
 · rw [World.cell?_setCell_other _ _ _ _ qP];exact h.code
 · rw [World.frozen?_setCell];exact h.free
 · obtain ⟨b,off,e,hlt,hc⟩:=h.bytes hn
   refine ⟨b,off,e,by simpa [World.setCell] using hlt,fun j hj=>?_⟩
   obtain ⟨x,hx,hc⟩:=hc j hj;have:=h.apart hn b off e
   exact ⟨x,hx,by rw [World.cell?_setCell_other _ _ _ _ (by simp;first|done|(intro h1;exact absurd h1.symm this))];exact hc⟩
theorem Rdr.drewN {w:World} {B:Nat} {a:Option Addr} {n c p:Nat} (h:Rdr w B a n c p) (q:Nat):Rdr (w.drewN q) B a n c p:=h.below (below_drewN (Below.refl _ _) q)
theorem zags (a b:Nat):Int.tmod (a:Int) (b:Int)=((a % b:Nat):Int):=by
 rw [Int.tmod_eq_emod_of_nonneg qO];simp
theorem zaok (a b:Nat):Int.tdiv (a:Int) (b:Int)=((a / b:Nat):Int):=by
 rw [Int.tdiv_eq_ediv_of_nonneg qO];simp
theorem zaol (B:Nat) (a:Option Addr) (n c p:Nat) (m:Int) (w:World) (h:Rdr w B a n c p) (hp:p≤1000000) (hm:m≤1000000) :
 Calls Tryz.prog 36 #[.pointer (some ⟨B,0,none⟩),.int .i64 m] w fun e w'=>∃ k:Nat,e=.returned (.int .i64 (k:Int))∧(1≤m→(k:Int)<m)∧(m<1→k=0)∧∃ q,w'=(w.setCell ⟨B,1,none⟩ (.int .i64 ((p+1:Nat):Int))).drewN q:=by
 have h1:=h.code;have h2:=h.at_;have h3:=h.free
 by_cases hm1:m<1
 · go_enter Tryz.func36,Tryz.ntmps36
   go_wp2
   go_ret
   exact ⟨0,rfl,by omega,by omega,0,rfl⟩
 by_cases hn:n=0
 · subst hn
   go_enter Tryz.func36,Tryz.ntmps36
   go_wp2
   go_ret
   exact ⟨0,rfl,by omega,by omega,0,rfl⟩
 have ht:=h.ticked;obtain ⟨b,off,rfl,hlt,hc⟩:=h.bytes qO;have hne:=h.apart qO b off rfl
 have hne2:B≠b:=fun e=>hne e.symm
 obtain ⟨M,rfl⟩:∃ M:Nat,m=M:=⟨m.toNat,by omega⟩;have hMpos:0<M:=qO;have hn0:¬ ((n:Int)=0):=qO;have few:=h.few
 by_cases hpn:p<n
 · obtain ⟨x,hx,c1⟩:=hc p hpn
   have hmod:=zags x M;have hmlt:x % M<M:=Nat.mod_lt _ hMpos;clear hc ht h
   go_enter Tryz.func36,Tryz.ntmps36
   go_wp2
   go_ret
   exact ⟨x % M,rfl,by omega,by omega,0,rfl⟩
 · have hq1:=hc (p % n) (Nat.mod_lt _ qO)
   have hq2:=hc ((p*7+3) % n) (Nat.mod_lt _ qO);obtain ⟨x,hx,c1⟩:=hq1;obtain ⟨y,hy,c2⟩:=hq2;have t1:=zags p n;have t2:=zags (p*7+3) n;have t3:=zaok p n;rw [show ((p*7+3:Nat):Int)=(p:Int)*7+3 from by omega] at t2;have u1:p % n<n:=Nat.mod_lt _ qO;have u2:(p*7+3) % n<n:=Nat.mod_lt _ qO;have u3:p / n≤p:=Nat.div_le_self _ _;clear hc;generalize p % n=r1 at *;generalize (p*7+3) % n=r2 at *;generalize p / n=r3 at *
   go_enter Tryz.func36,Tryz.ntmps36
   go_wp2_with fail;obtain ⟨W,hW⟩:=qM (w.setCell ⟨B,1,none⟩ (.int .i64 ((p:Int)+1)))
   have ht2:Rdr W B (some ⟨b,off,none⟩) n c (p+1):=by rw [hW];exact ht
   have g1:=ht2.code
   have g3:W.cell? ⟨b,off+r1,none⟩=some (.int .u8 x):=by rw [hW,World.cell?_setCell_other _ _ _ _ qP];exact c1
   have g4:W.cell? ⟨b,off+r2,none⟩=some (.int .u8 y):=by rw [hW,World.cell?_setCell_other _ _ _ _ qP];exact c2
   have hWe:w.setCell ⟨B,1,none⟩ (.int .i64 ((p+1:Nat):Int))=W:=hW.symm;have HWe:=Lib.hid hWe;rw [← hW];clear hW hWe c1 c2 h1 h2 h3 h ht ht2;have hN:(n:Int)≠0:=qO;have v1:(r1:Int)<n:=qO;have v2:(r2:Int)<n:=qO;have w1:IntKind.i64.wrap ((x:Int)*131)=x*131:=IntWalk.i64_in _ qO;have w2:IntKind.i64.wrap ((p:Int)*7)=p*7:=IntWalk.i64_in _ qO;have w3:IntKind.i64.wrap ((p:Int)*7+3)=p*7+3:=IntWalk.i64_in _ qO;have w4:IntKind.i64.wrap ((y:Int)*1117)=y*1117:=IntWalk.i64_in _ qO;have w5:IntKind.i64.wrap ((x:Int)*131+y*1117)=x*131+y*1117:=IntWalk.i64_in _ qO;have w6:IntKind.i64.wrap ((p:Int)*29)=p*29:=IntWalk.i64_in _ qO;have w7:IntKind.i64.wrap ((x:Int)*131+y*1117+p*29)=x*131+y*1117+p*29:=IntWalk.i64_in _ qO;have w8:IntKind.i64.wrap ((r3:Int)*53)=r3*53:=IntWalk.i64_in _ qO;have w9:IntKind.i64.wrap ((x:Int)*131+y*1117+p*29+r3*53)=x*131+y*1117+p*29+r3*53:=IntWalk.i64_in _ qO
   go_quiet (fail)
   obtain ⟨X,hX⟩:∃ X:Nat,(x:Int)*131+y*1117+p*29+r3*53=(X:Int):=⟨x*131+y*1117+p*29+r3*53,by omega⟩;have hXb:X≤1000000000:=qO;rw [hX];clear w1 w2 w3 w4 w5 w6 w7 w8 w9 t1 t2 t3 u1 u2 u3 v1 v2 hX g1 g3 g4;have d1:Int.tdiv (X:Int) 64=((X / 64:Nat):Int):=zaok X 64;have d2:X / 64≤X:=Nat.div_le_self _ _;generalize X / 64=Z at d1 d2;have e1:=zaoj X Z qO qO;generalize X ^^^ Z=Y at e1;have f1:=zags Y M;have f2:Y % M<M:=Nat.mod_lt _ hMpos
   go_wp2
   go_ret
   exact ⟨Y % M,rfl,by omega,by omega,_,by rw [HWe.out]⟩
theorem zaxp (B:Nat) (a:Option Addr) (n c p:Nat) (m:Nat) (w:World) (h:Rdr w B a n c p) (hp:p≤1000000) (hm1:0<m) (hm:m≤1000000) :
 Calls Tryz.prog 38 #[.pointer (some ⟨B,0,none⟩),.int .i64 m] w fun e w'=>∃ b,e=.returned (.bool b)∧∃ q,w'=(w.setCell ⟨B,1,none⟩ (.int .i64 ((p+1:Nat):Int))).drewN q:=by
 go_enter Tryz.func38,Tryz.ntmps38
 go_wp2_with (go_at_call 36;refine (zaol _ _ _ _ _ _ _ h hp qO).mono ?_;rintro e w' ⟨k,rfl,hk1,hk2,q,rfl⟩)
 go_ret
 exact ⟨_,rfl,q,rfl⟩
theorem Rdr.made {w:World} {a:Option Addr} {n c:Nat} (hb:Bytes w a n) (hn:n≤2000):Rdr (w.alloc (.cells #[.slice a n c,.int .i64 0] 102)) w.heap.size a n c 0 :=
 ⟨by simp,by simp,by simp,hb.below ((Below.refl _ _).alloc (Nat.le_refl _) _),fun h0 b off e=>by
  obtain ⟨b',off',e',hlt,_⟩:=hb h0
  rw [e] at e';cases e';omega,hn⟩
theorem zaqw (a:Option Addr) (n c:Nat) (w:World) (hc:n≤c) (hn:n≤1048576) (hb:Bytes w a n) :
 Calls Tryz.prog 34 #[.slice a n c] w fun e w'=>∃ n' c',e=.returned (.pointer (some ⟨w.heap.size,0,none⟩))∧Rdr w' w.heap.size a n' c' 0∧Below w.heap.size w w':=by
 by_cases h:2000<n
 · obtain ⟨b,off,rfl,hlt,hcell⟩:=hb qO
   go_enter Tryz.func34,Tryz.ntmps34
   go_wp2
   go_ret
   exact ⟨2000,c,rfl,Rdr.made (fun _=>⟨b,off,rfl,hlt,fun j hj=>hcell j qO⟩) qO,qBl⟩
 · go_enter Tryz.func34,Tryz.ntmps34
   go_wp2
   go_ret
   exact ⟨n,c,rfl,Rdr.made hb qO,qBl⟩
end Go.Proofs.YthfoloefkfadlaaGreatDoor
