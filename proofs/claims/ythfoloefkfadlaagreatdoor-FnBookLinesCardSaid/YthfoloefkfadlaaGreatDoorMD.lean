/- Walks: BookLines, of the program and of the reference (written by wip/bin/gen_bll.py). -/
import Derived.Test.YthfoloefkfadlaaGreatDoorMC
import Derived.Test.YthfoloefkfadlaaGreatDoorM0
import Derived.Test.YthfoloefkfadlaaGreatDoorM2
import Derived.Deep.RegionHeld3
import Derived.Deep.DeepCutAuto
import Derived.Test.YthfoloefkfadlaaGreatDoorR4
set_option linter.unusedSimpArgs false
set_option linter.unusedVariables false
set_option maxHeartbeats 1000000
set_option maxRecDepth 100000
namespace Go.Proofs.YthfoloefkfadlaaGreatDoor
open Go Go.RowKit Go.Sort
noncomputable def linesTop (b:Bk) (ls:List ByteArray):Bk × List ByteArray:=if bkOk b=true∧ls.length≤40 then linesF b ls else (zeroBk,[])
theorem zabz {b:Bk} {ls:List ByteArray} (h:¬ (bkOk b=true∧ls.length≤40)):linesTop b ls=(zeroBk,[]):=by unfold linesTop;rw [if_neg h]
theorem zacq {b:Bk} {ls:List ByteArray} (h:bkOk b=true) (h2:ls.length≤40):linesTop b ls=linesF b ls:=by unfold linesTop;rw [if_pos ⟨h,h2⟩]
def LnsOut (p:Bk × List ByteArray) (w:World) (e:Ending) (w':World):Prop:=∃ v1 v2 v3 va,e=.returned (.tuple #[.agg #[.int .i64 p.1.first.st,v1,v2,v3],va])∧BkOwn w' w.heap.size v1 v2 v3 p.1∧OwnT w' w.heap.size va p.2∧Below w.heap.size w w'
theorem zaim (n:Nat) (h:n≤1048576) (w:World):(Instr.makeSlice 29 (.int .i64 (n:Int)) (.int .i64 (n:Int))).run Tryz.prog w =
 .ok (.slice (some ⟨w.heap.size,0,none⟩) n n) (w.alloc (.cells (madeCells #[.string ByteArray.empty] n) 9)) :=
 run_make_row' 29 9 (.string ByteArray.empty) 16 Tryz.underlying29 zasg rfl .i64 .i64 n qO qO w
theorem OwnT.made (w:World) (B n:Nat) (hB:B≤w.heap.size) (hn:n≤1048576):OwnT (w.alloc (.cells (madeCells #[.string ByteArray.empty] n) 9)) B (.slice (some ⟨w.heap.size,0,none⟩) n n) (List.replicate n ByteArray.empty) :=
 KOwn.made (.string ByteArray.empty) ByteArray.empty rfl rfl w B n hB qO
theorem zalf (l:List ByteArray):strK.flat l=l.map Value.string:=by
 induction l with
 | nil=>rfl
 | cons x l ih=>rw [zaa4,ih];rfl
theorem OwnT.put {w:World} {B g n c:Nat} {xs:List ByteArray} (h:OwnT w B (.slice (some ⟨g,0,none⟩) n c) xs) {k:Nat} (hk:k<xs.length) (x:ByteArray) :
 OwnT (w.setCell ⟨g,k,none⟩ (.string x)) B (.slice (some ⟨g,0,none⟩) n c) (xs.set k x):=by
 obtain ⟨g',cap,f,e,hB,hn,hc,hr,hf⟩:=KOwn.row h qO
 cases e
 have hr2:(w.setCell ⟨g,k,none⟩ (.string x)).rowIs g 9 (c*strK.sz) (fun j=>if j=k then .string x else f j):=hr.set k (.string x)
 have hlen:(xs.set k x).length=xs.length:=qP
 have:=KOwn.ofRow (K:=strK) (T:=9) (B:=B) (xs:=xs.set k x) hB (by rw [hlen];exact hn) hc hr2 (fun j u hu=>by
  rw [zalf,List.getElem?_map,List.getElem?_set] at hu
  by_cases e:k=j
  · subst e
    rw [if_pos rfl,if_pos hk] at hu
    show (if k=k then Value.string x else f k)=u
    rw [if_pos rfl]
    simpa using hu
  · rw [if_neg e] at hu
    have e2:¬ j=k:=fun h=>e h.symm
    show (if j=k then Value.string x else f j)=u
    rw [if_neg e2];refine hf j u ?_;rw [zalf,List.getElem?_map]
    exact hu)
 rwa [hlen] at this
theorem zahi {α β:Type} [Inhabited α] [Inhabited β] {K:Kind α} {J:Kind β} {T S:TypeId} {w:World} {B C:Nat} {v u:Value} {xs:List α} {ys:List β} (h:KOwn K T w B v xs) (h2:KOwn J S w C u ys) (hne:T≠S) {k:Nat} (hv:v.ownBlock=some k):u.ownBlock≠some k:=by
 intro hu
 rcases h.2 with ⟨e,_⟩|⟨g,cap,cur,e,_,hg,_⟩
 · rw [e] at hv;cases hv
 rcases h2.2 with ⟨e2,_⟩|⟨g2,cap2,cur2,e2,_,hg2,_⟩
 · rw [e2] at hu;cases hu
 rw [e] at hv;rw [e2] at hu
 cases hv;cases hu
 rw [hg] at hg2
 cases hg2
 exact hne rfl
theorem zaqs {w:World} {B C:Nat} {va v1 v2 v3:Value} {ts:List ByteArray} {b:Bk} (h:OwnT w B va ts) (h2:BkOwn w C v1 v2 v3 b) {k:Nat} (hk:bkBlk v1 v2 v3 k):va.ownBlock≠some k:=by
 rcases hk with e|e|e
 · exact zahi h2.l h (by decide) e
 · exact zahi h2.d h (by decide) e
 · exact zahi h2.u h (by decide) e
structure LnsHd (w:World) (X Y:Nat) (b0:Bk) (ls:List ByteArray) (k:Nat) (st:Int) (l:List Lg) (d u:List Dd) (a1 a2 a3:Option Addr) (c1 c2 c3:Nat) (va:Value) (ts:List ByteArray) (wr:World):Prop where
 le:k≤ls.length
 run:(linesF b0 (ls.take k)).1=⟨⟨st,l⟩,d,u⟩
 ok:bkOk ⟨⟨st,l⟩,d,u⟩=true
 y:At wr Y [.int .i64 st,.slice a1 l.length c1,.slice a2 d.length c2,.slice a3 u.length c3]
 r:At wr (X+1) [.int .i64 0,.slice none 0 0,.slice none 0 0,.slice none 0 0]
 own:BkOwn wr (X+2) (.slice a1 l.length c1) (.slice a2 d.length c2) (.slice a3 u.length c3) ⟨⟨st,l⟩,d,u⟩
 ne:∀ j,bkBlk (.slice a1 l.length c1) (.slice a2 d.length c2) (.slice a3 u.length c3) j→j≠Y
 txt:OwnT wr (X+2) va ts
 nt:∀ j,va.ownBlock=some j→j≠Y
 lt:X+1<Y
 b:Below w.heap.size w wr
theorem zaqt {b:Bk} (h:bkOk b=true) (ls:List ByteArray):(linesF b ls).1.first.legs.length≤9∧(linesF b ls).1.done.length≤40∧(linesF b ls).1.undone.length≤40:=by
 have:=zab1 (zafn ls h).1
 omega
theorem zaoe (b:Bk) (ls:List ByteArray):(linesTop b ls).1.first.legs.length≤9∧(linesTop b ls).1.done.length≤40∧(linesTop b ls).1.undone.length≤40∧(linesTop b ls).2.length≤40:=by
 by_cases h:bkOk b=true∧ls.length≤40
 · rw [zacq h.1 h.2,zac3]
   have:=zaqt h.1 ls
   omega
 · rw [zabz h];exact ⟨Nat.zero_le _,Nat.zero_le _,Nat.zero_le _,Nat.zero_le _⟩
theorem zang (a1 a2 a3:Option Addr) (c1 c2 c3:Nat) (st:Int) (l:List Lg) (d u:List Dd) (ax:Option Addr) (cx:Nat) (ls:List ByteArray) (w:World) (hl:l.length≤1048576) (hd:d.length≤1048576) (hu:u.length≤1048576) (hln:ls.length≤1048576) (hsz:∀ k,k<ls.length→(nth ls k).size≤1048576) (hs:RdB w a1 a2 a3 ⟨⟨st,l⟩,d,u⟩) (hls:Strs w ax ls) (hok:bkOk ⟨⟨st,l⟩,d,u⟩=false) :
 Calls Tryz.prog 8 #[.agg #[.int .i64 st,.slice a1 l.length c1,.slice a2 d.length c2,.slice a3 u.length c3],.slice ax ls.length cx] w (LnsOut (zeroBk,[]) w):=by
 clear hsz hls;obtain ⟨X,hX⟩:=qN (w.heap.size);obtain ⟨W1,hW1⟩:=qM ((w.alloc (.cells #[.int .i64 st,.slice a1 l.length c1,.slice a2 d.length c2,.slice a3 u.length c3] 28)).alloc (.cells #[.int .i64 0,.slice none 0 0,.slice none 0 0,.slice none 0 0] 28))
 have F0:At W1 X [.int .i64 st,.slice a1 l.length c1,.slice a2 d.length c2,.slice a3 u.length c3]:=by rw [hW1];exact (At.new _ _ _ hX.symm rfl).alloc _
 have R0:At W1 (X+1) [.int .i64 0,.slice none 0 0,.slice none 0 0,.slice none 0 0]:=by rw [hW1];exact At.new _ _ _ (by simp [hX]) rfl
 have b0:Below w.heap.size w W1:=by rw [hW1];exact qBl
 go_enter Tryz.func8,Tryz.ntmps8
 go_wp2_with fail;rw [← hW1];clear hW1;refine (zaan _ _ _ _ _ _ st l d u _ hl hd hu (hs.below b0)).mono ?_;rintro e w1 ⟨rfl,k1⟩;rw [hok];replace R0:=R0.below k1;replace b0:=b0.trans (k1.mono b0.size);clear k1 F0 hok;obtain ⟨r,r0,r1,r2,r3,rf⟩:=id R0.facts4;go_wp2_with fail
 obtain ⟨AE,oE,bE⟩:=zaap (w:=w) (v0:=.int .i64 0) (v1:=.slice none 0 0) (v2:=.slice none 0 0) (v3:=.slice none 0 0) (b:=zeroBk) (X:=X+1) (B:=X+1+1) qO qO qO R0 ⟨KOwn.nil,KOwn.nil,KOwn.nil,(fun k h=>by cases h),(fun k h=>by cases h),(fun k h=>by cases h)⟩ b0
 obtain ⟨f0,f1,f2,f3,f4,-⟩:=AE.facts4
 exact bodyPost_ret (v:=.tuple #[.agg #[.int .i64 0,.slice none 0 0,.slice none 0 0,.slice none 0 0],.slice none 0 0]) (by simp [results,Tryz.results8,go_sem,f1,f2,f3,f4]) rfl ⟨_,_,_,_,rfl,oE,KOwn.nil,bE⟩
theorem zalg (a1 a2 a3:Option Addr) (c1 c2 c3:Nat) (st:Int) (l:List Lg) (d u:List Dd) (ax:Option Addr) (cx:Nat) (ls:List ByteArray) (w:World) (hl:l.length≤1048576) (hd:d.length≤1048576) (hu:u.length≤1048576) (hln:ls.length≤1048576) (hsz:∀ k,k<ls.length→(nth ls k).size≤1048576) (hs:RdB w a1 a2 a3 ⟨⟨st,l⟩,d,u⟩) (hls:Strs w ax ls) (hok:bkOk ⟨⟨st,l⟩,d,u⟩=true) (hlg:40<ls.length) :
 Calls Tryz.prog 8 #[.agg #[.int .i64 st,.slice a1 l.length c1,.slice a2 d.length c2,.slice a3 u.length c3],.slice ax ls.length cx] w (LnsOut (zeroBk,[]) w):=by
 clear hsz hls;obtain ⟨X,hX⟩:=qN (w.heap.size);obtain ⟨W1,hW1⟩:=qM ((w.alloc (.cells #[.int .i64 st,.slice a1 l.length c1,.slice a2 d.length c2,.slice a3 u.length c3] 28)).alloc (.cells #[.int .i64 0,.slice none 0 0,.slice none 0 0,.slice none 0 0] 28))
 have F0:At W1 X [.int .i64 st,.slice a1 l.length c1,.slice a2 d.length c2,.slice a3 u.length c3]:=by rw [hW1];exact (At.new _ _ _ hX.symm rfl).alloc _
 have R0:At W1 (X+1) [.int .i64 0,.slice none 0 0,.slice none 0 0,.slice none 0 0]:=by rw [hW1];exact At.new _ _ _ (by simp [hX]) rfl
 have b0:Below w.heap.size w W1:=by rw [hW1];exact qBl
 go_enter Tryz.func8,Tryz.ntmps8
 go_wp2_with fail;rw [← hW1];clear hW1;refine (zaan _ _ _ _ _ _ st l d u _ hl hd hu (hs.below b0)).mono ?_;rintro e w1 ⟨rfl,k1⟩;rw [hok];replace R0:=R0.below k1;replace b0:=b0.trans (k1.mono b0.size);clear k1 F0 hok;obtain ⟨r,r0,r1,r2,r3,rf⟩:=id R0.facts4;go_wp2_with fail
 obtain ⟨AE,oE,bE⟩:=zaap (w:=w) (v0:=.int .i64 0) (v1:=.slice none 0 0) (v2:=.slice none 0 0) (v3:=.slice none 0 0) (b:=zeroBk) (X:=X+1) (B:=X+1+1) qO qO qO R0 ⟨KOwn.nil,KOwn.nil,KOwn.nil,(fun k h=>by cases h),(fun k h=>by cases h),(fun k h=>by cases h)⟩ b0
 obtain ⟨f0,f1,f2,f3,f4,-⟩:=AE.facts4
 exact bodyPost_ret (v:=.tuple #[.agg #[.int .i64 0,.slice none 0 0,.slice none 0 0,.slice none 0 0],.slice none 0 0]) (by simp [results,Tryz.results8,go_sem,f1,f2,f3,f4]) rfl ⟨_,_,_,_,rfl,oE,KOwn.nil,bE⟩
theorem zalh (a1 a2 a3:Option Addr) (c1 c2 c3:Nat) (st:Int) (l:List Lg) (d u:List Dd) (ax:Option Addr) (cx:Nat) (ls:List ByteArray) (w:World) (hl:l.length≤1048576) (hd:d.length≤1048576) (hu:u.length≤1048576) (hln:ls.length≤1048576) (hsz:∀ k,k<ls.length→(nth ls k).size≤1048576) (hs:RdB w a1 a2 a3 ⟨⟨st,l⟩,d,u⟩) (hls:Strs w ax ls) (hok:bkOk ⟨⟨st,l⟩,d,u⟩=false) :
 Calls Tryz.prog 9 #[.agg #[.int .i64 st,.slice a1 l.length c1,.slice a2 d.length c2,.slice a3 u.length c3],.slice ax ls.length cx] w (LnsOut (zeroBk,[]) w):=by
 clear hsz hls;obtain ⟨X,hX⟩:=qN (w.heap.size);obtain ⟨W1,hW1⟩:=qM ((w.alloc (.cells #[.int .i64 st,.slice a1 l.length c1,.slice a2 d.length c2,.slice a3 u.length c3] 28)).alloc (.cells #[.int .i64 0,.slice none 0 0,.slice none 0 0,.slice none 0 0] 28))
 have F0:At W1 X [.int .i64 st,.slice a1 l.length c1,.slice a2 d.length c2,.slice a3 u.length c3]:=by rw [hW1];exact (At.new _ _ _ hX.symm rfl).alloc _
 have R0:At W1 (X+1) [.int .i64 0,.slice none 0 0,.slice none 0 0,.slice none 0 0]:=by rw [hW1];exact At.new _ _ _ (by simp [hX]) rfl
 have b0:Below w.heap.size w W1:=by rw [hW1];exact qBl
 go_enter Tryz.func9,Tryz.ntmps9
 go_wp2_with fail;rw [← hW1]
 have hXs:W1.heap.size=X+1+1:=by rw [hW1];simp [hX]
 have hLit:=KOwn.lit (K:=strK) (T:=9) W1 (X+2) qO;rw [hXs] at hLit;replace F0:=F0.alloc (.cells #[] 9);replace R0:=R0.alloc (.cells #[] 9);replace b0:=b0.alloc b0.size (.cells #[] 9);obtain ⟨W2,hW2⟩:=qM (W1.alloc (.cells #[] 9));rw [← hW2] at F0 R0 b0 hLit ⊢;clear hW2 hXs;clear hW1;refine (zaak _ _ _ _ _ _ st l d u _ hl hd hu (hs.below b0)).mono ?_;rintro e w1 ⟨rfl,k1⟩;rw [hok];replace R0:=R0.below k1;replace b0:=b0.trans (k1.mono b0.size);replace hLit:=hLit.below k1;clear k1 F0 hok;obtain ⟨r,r0,r1,r2,r3,rf⟩:=id R0.facts4;go_wp2_with fail
 obtain ⟨AE,oE,bE⟩:=zaap (w:=w) (v0:=.int .i64 0) (v1:=.slice none 0 0) (v2:=.slice none 0 0) (v3:=.slice none 0 0) (b:=zeroBk) (X:=X+1) (B:=X+1+1) qO qO qO R0 ⟨KOwn.nil,KOwn.nil,KOwn.nil,(fun k h=>by cases h),(fun k h=>by cases h),(fun k h=>by cases h)⟩ b0
 obtain ⟨f0,f1,f2,f3,f4,-⟩:=AE.facts4
 exact bodyPost_ret (v:=.tuple #[.agg #[.int .i64 0,.slice none 0 0,.slice none 0 0,.slice none 0 0],.slice (some ⟨X+1+1,0,none⟩) 0 0]) (by simp [results,Tryz.results9,go_sem,f1,f2,f3,f4]) rfl ⟨_,_,_,_,rfl,oE,(((((hLit.setCell (p:=⟨X+1,0,none⟩) (by show X+1<X+2;omega) _).setCell (p:=⟨X+1,1,none⟩) (by show X+1<X+2;omega) _).setCell (p:=⟨X+1,2,none⟩) (by show X+1<X+2;omega) _).setCell (p:=⟨X+1,3,none⟩) (by show X+1<X+2;omega) _)).mono qO,bE⟩
theorem zajx (a1 a2 a3:Option Addr) (c1 c2 c3:Nat) (st:Int) (l:List Lg) (d u:List Dd) (ax:Option Addr) (cx:Nat) (ls:List ByteArray) (w:World) (hl:l.length≤1048576) (hd:d.length≤1048576) (hu:u.length≤1048576) (hln:ls.length≤1048576) (hsz:∀ k,k<ls.length→(nth ls k).size≤1048576) (hs:RdB w a1 a2 a3 ⟨⟨st,l⟩,d,u⟩) (hls:Strs w ax ls) (hok:bkOk ⟨⟨st,l⟩,d,u⟩=true) (hlg:40<ls.length) :
 Calls Tryz.prog 9 #[.agg #[.int .i64 st,.slice a1 l.length c1,.slice a2 d.length c2,.slice a3 u.length c3],.slice ax ls.length cx] w (LnsOut (zeroBk,[]) w):=by
 clear hsz hls;obtain ⟨X,hX⟩:=qN (w.heap.size);obtain ⟨W1,hW1⟩:=qM ((w.alloc (.cells #[.int .i64 st,.slice a1 l.length c1,.slice a2 d.length c2,.slice a3 u.length c3] 28)).alloc (.cells #[.int .i64 0,.slice none 0 0,.slice none 0 0,.slice none 0 0] 28))
 have F0:At W1 X [.int .i64 st,.slice a1 l.length c1,.slice a2 d.length c2,.slice a3 u.length c3]:=by rw [hW1];exact (At.new _ _ _ hX.symm rfl).alloc _
 have R0:At W1 (X+1) [.int .i64 0,.slice none 0 0,.slice none 0 0,.slice none 0 0]:=by rw [hW1];exact At.new _ _ _ (by simp [hX]) rfl
 have b0:Below w.heap.size w W1:=by rw [hW1];exact qBl
 go_enter Tryz.func9,Tryz.ntmps9
 go_wp2_with fail;rw [← hW1]
 have hXs:W1.heap.size=X+1+1:=by rw [hW1];simp [hX]
 have hLit:=KOwn.lit (K:=strK) (T:=9) W1 (X+2) qO;rw [hXs] at hLit;replace F0:=F0.alloc (.cells #[] 9);replace R0:=R0.alloc (.cells #[] 9);replace b0:=b0.alloc b0.size (.cells #[] 9);obtain ⟨W2,hW2⟩:=qM (W1.alloc (.cells #[] 9));rw [← hW2] at F0 R0 b0 hLit ⊢;clear hW2 hXs;clear hW1;refine (zaak _ _ _ _ _ _ st l d u _ hl hd hu (hs.below b0)).mono ?_;rintro e w1 ⟨rfl,k1⟩;rw [hok];replace R0:=R0.below k1;replace b0:=b0.trans (k1.mono b0.size);replace hLit:=hLit.below k1;clear k1 F0 hok;obtain ⟨r,r0,r1,r2,r3,rf⟩:=id R0.facts4;go_wp2_with fail
 obtain ⟨AE,oE,bE⟩:=zaap (w:=w) (v0:=.int .i64 0) (v1:=.slice none 0 0) (v2:=.slice none 0 0) (v3:=.slice none 0 0) (b:=zeroBk) (X:=X+1) (B:=X+1+1) qO qO qO R0 ⟨KOwn.nil,KOwn.nil,KOwn.nil,(fun k h=>by cases h),(fun k h=>by cases h),(fun k h=>by cases h)⟩ b0
 obtain ⟨f0,f1,f2,f3,f4,-⟩:=AE.facts4
 exact bodyPost_ret (v:=.tuple #[.agg #[.int .i64 0,.slice none 0 0,.slice none 0 0,.slice none 0 0],.slice (some ⟨X+1+1,0,none⟩) 0 0]) (by simp [results,Tryz.results9,go_sem,f1,f2,f3,f4]) rfl ⟨_,_,_,_,rfl,oE,(((((hLit.setCell (p:=⟨X+1,0,none⟩) (by show X+1<X+2;omega) _).setCell (p:=⟨X+1,1,none⟩) (by show X+1<X+2;omega) _).setCell (p:=⟨X+1,2,none⟩) (by show X+1<X+2;omega) _).setCell (p:=⟨X+1,3,none⟩) (by show X+1<X+2;omega) _)).mono qO,bE⟩
set_option maxHeartbeats 4000000
theorem OwnT.cellK {w:World} {B g n c:Nat} {xs:List ByteArray} (h:OwnT w B (.slice (some ⟨g,0,none⟩) n c) xs) {k:Nat} (hk:k<xs.length):n=xs.length∧B≤g∧g<w.heap.size∧w.cell? ⟨g,k,none⟩=some (.string (nth xs k))∧w.frozen? ⟨g,k,none⟩=false:=by
 obtain ⟨g',cap,f,e,hB,hn,hc,hr,hf⟩:=KOwn.row h qO
 cases e
 have hl:=(KOwn.lt h (k:=g) rfl).2
 refine ⟨rfl,hB,hl,?_,hr.frozen k⟩
 have h1:f k=.string (nth xs k):=hf k _ (by rw [zalf,List.getElem?_map,getElem?_nth hk];rfl);rw [← h1]
 exact hr.cell (by show k<c*1;omega)
theorem zatx {ts:List ByteArray} {n k:Nat} (hl:ts.length=k) (hk:k<n) (t:ByteArray):(ts ++ List.replicate (n - k) ByteArray.empty).set k t=(ts ++ [t]) ++ List.replicate (n - (k+1)) ByteArray.empty:=by
 subst hl;obtain ⟨m,hm⟩:∃ m,n - ts.length=m+1:=⟨n - ts.length - 1,by omega⟩;have hm2:n - (ts.length+1)=m:=qO;rw [hm,hm2,List.replicate_succ,List.set_append_right _ _ (Nat.le_refl _),Nat.sub_self,List.set_cons_zero,List.append_assoc]
 rfl
theorem zaof (a1 a2 a3:Option Addr) (c1 c2 c3:Nat) (st:Int) (l:List Lg) (d u:List Dd) (ax:Option Addr) (cx:Nat) (ls:List ByteArray) (w:World) (hl:l.length≤1048576) (hd:d.length≤1048576) (hu:u.length≤1048576) (hln:ls.length≤1048576) (hsz:∀ k,k<ls.length→(nth ls k).size≤1048576) (hs:RdB w a1 a2 a3 ⟨⟨st,l⟩,d,u⟩) (hls:Strs w ax ls) (hw:Lby w) (hok:bkOk ⟨⟨st,l⟩,d,u⟩=true) (hlg:ls.length≤40) :
 Calls Tryz.prog 8 #[.agg #[.int .i64 st,.slice a1 l.length c1,.slice a2 d.length c2,.slice a3 u.length c3],.slice ax ls.length cx] w (LnsOut (linesF ⟨⟨st,l⟩,d,u⟩ ls) w):=by
 obtain ⟨b0,hb0⟩:=qM ((⟨⟨st,l⟩,d,u⟩:Bk));have HB0:=Lib.hid hb0;have HOK:=Lib.hid (show bkOk b0=true by rw [hb0];exact hok);rw [← hb0];clear hb0;obtain ⟨LF,hLF⟩:=qN (linesF b0 ls);rw [hLF];have HLF:=Lib.hid hLF;clear hLF;obtain ⟨X,hX⟩:=qN (w.heap.size);obtain ⟨W1,hW1⟩:=qM ((w.alloc (.cells #[.int .i64 st,.slice a1 l.length c1,.slice a2 d.length c2,.slice a3 u.length c3] 28)).alloc (.cells #[.int .i64 0,.slice none 0 0,.slice none 0 0,.slice none 0 0] 28))
 have F0:At W1 X [.int .i64 st,.slice a1 l.length c1,.slice a2 d.length c2,.slice a3 u.length c3]:=by rw [hW1];exact (At.new _ _ _ hX.symm rfl).alloc _
 have R0:At W1 (X+1) [.int .i64 0,.slice none 0 0,.slice none 0 0,.slice none 0 0]:=by rw [hW1];exact At.new _ _ _ (by simp [hX]) rfl
 have b0':Below w.heap.size w W1:=by rw [hW1];exact qBl
 go_enter Tryz.func8,Tryz.ntmps8
 go_wp2_with fail;rw [← hW1];clear hW1;refine (zaan _ _ _ _ _ _ st l d u _ hl hd hu (hs.below b0')).mono ?_;rintro e w1 ⟨rfl,k1⟩;rw [hok];replace F0:=F0.below k1;replace R0:=R0.below k1;replace b0':=b0'.trans (k1.mono b0'.size);clear k1;have HK:=Lib.hid hok;clear hok;obtain ⟨y,y0,y1,y2,y3,-⟩:=id F0.facts4;go_wp2_with fail;refine (zab0 _ _ _ _ _ _ st l d u _ hl hd hu (hs.below b0')).mono ?_;rintro e w2 ⟨v1,v2,v3,rfl,o2,k2⟩;obtain ⟨p1,q1,p2,q2,p3,q3,rfl,rfl,rfl⟩:=o2.forms;have hz1:=R0.lt;replace R0:=R0.below k2;replace b0':=b0'.trans (k2.mono b0'.size);simp only at o2;clear k2 F0 y y0 y1 y2 y3;go_upto_region 4 with fail;obtain ⟨Y,hY⟩:=qN (w2.heap.size);obtain ⟨W3,hW3⟩:=qM (w2.alloc (.cells #[.int .i64 st,.slice p1 l.length q1,.slice p2 d.length q2,.slice p3 u.length q3] 28))
 have k3:Below w2.heap.size w2 W3:=by rw [hW3];exact qBl
 have Y0:At W3 Y [.int .i64 st,.slice p1 l.length q1,.slice p2 d.length q2,.slice p3 u.length q3]:=by rw [hW3];exact At.new _ _ _ hY.symm rfl
 have hne:∀ j,bkBlk (.slice p1 l.length q1) (.slice p2 d.length q2) (.slice p3 u.length q3) j→j≠Y:=fun j hj=>by have:=(o2.blk hj).2;omega
 rw [hY,← hW3]
 have hXY:X+1<Y:=by have:=R0.lt;omega
 replace R0:=R0.below k3;replace o2:=(o2.below k3).mono (B':=X+2) qO;replace b0':=b0'.trans (k3.mono b0'.size);clear hW3 k3 hY hz1
 have mi:=fun W=>zaim ls.length qO W
 go_upto_region 5 with fail;obtain ⟨A,hA⟩:=qN (W3.heap.size)
 have hYA:Y<A:=by have:=Y0.lt;omega
 have TX:=OwnT.made W3 (X+2) ls.length qO qO;obtain ⟨W4,hW4⟩:=qM (W3.alloc (.cells (madeCells #[.string ByteArray.empty] ls.length) 9))
 have k4:Below W3.heap.size W3 W4:=by rw [hW4];exact qBl
 rw [← hW4] at TX;rw [hA] at TX;rw [hA,← hW4];replace Y0:=Y0.below k4;replace R0:=R0.below k4;replace o2:=o2.below k4;replace b0':=b0'.trans (k4.mono b0'.size);clear hW4 k4 hA mi
 have hd0:LnsHd w X Y b0 ls 0 st l d u p1 p2 p3 q1 q2 q3 (.slice (some ⟨A,0,none⟩) ls.length ls.length) ((linesF b0 (ls.take 0)).2 ++ List.replicate (ls.length - 0) ByteArray.empty) W4 :=
  ⟨Nat.zero_le _,HB0.out,HK.out,Y0,R0,o2,hne,TX,(fun j hj=>by have e:A=j:=Option.some.inj hj;omega),hXY,b0'⟩
 clear Y0 R0 o2 hne TX b0';go_wp2_with fail
 go_loopw [26] (fun i wr=>∃ (k:Nat) (sst:Int) (sl:List Lg) (sd su:List Dd) (b1 b2 b3:Option Addr) (e1 e2 e3:Nat),i=.int .i64 (k:Int)∧LnsHd w X Y b0 ls k sst sl sd su b1 b2 b3 e1 e2 e3 (.slice (some ⟨A,0,none⟩) ls.length ls.length) ((linesF b0 (ls.take k)).2 ++ List.replicate (ls.length - k) ByteArray.empty) wr) (fun i _=>ls.length - (intOf i).toNat)
 case atStart=>exact ⟨0,st,l,d,u,p1,p2,p3,q1,q2,q3,by first|rfl|go_num,hd0⟩
 case round =>
  clear hd0;obtain ⟨k,sst,sl,sd,su,b1,b2,b3,e1,e2,e3,rfl,H⟩:=hrel;have hb:=H.b;have hle:=H.le;have hXw:w.heap.size≤X:=qO
  have htl:(linesF b0 (ls.take k)).2.length=k:=by rw [zac3,List.length_take];omega
  obtain ⟨y,y0,y1,y2,y3,yf⟩:=id H.y.facts4
  by_cases hlt:k<ls.length
  · have hlens:=zab1 H.ok
    simp only at hlens;obtain ⟨⟨⟨⟨nst,nl⟩,nd,nu⟩,t⟩,hP⟩:=qN (lineF ⟨⟨sst,sl⟩,sd,su⟩ (nth ls k))
    have K:=Lib.hid (fun W h hw=>zaod b1 b2 b3 e1 e2 e3 sst sl sd su (nth ls k) W qO qO qO (hsz k hlt) h hw)
    rw [hP] at K;have HOK2:=zajc H.ok (nth ls k);rw [hP] at HOK2;have HN:=Lib.hid HOK2.ok;have hstep:=zail hlt b0;rw [H.run,hP] at hstep;have HS:=Lib.hid hstep;clear hstep HOK2 hP;obtain ⟨tg,tc,hTC⟩:∃ tg tc,(tg,tc)=(A,A):=⟨A,A,rfl⟩;obtain ⟨-,hAX,hAw,cA,fA⟩:=OwnT.cellK H.txt (k:=k) (by rw [List.length_append,htl,List.length_replicate];omega);clear hTC tg tc;obtain ⟨bb,off,rfl,hbw,m0⟩:=Strs.at (hls.below hb) hlt;have hlt2:(k:Int)<(ls.length:Int):=qO;go_upto_region 8 with fail;clear m0;have i1:=K.out;unfold LnOut at i1;simp only at i1;go_wp2_with fail;refine (i1 _ H.own.kr (hw.below hb)).mono ?_;rintro e w5 ⟨v1,v2,v3,rfl,o5,k5⟩;obtain ⟨m1,j1,m2,j2,m3,j3,rfl,rfl,rfl⟩:=o5.forms;simp only at o5;have Y5:=H.y.below k5;have R5:=H.r.below k5;have T5:=H.txt.below k5;have b5:=H.b.trans (k5.mono H.b.size)
    have hYA':Y≠A:=fun e=>H.nt A rfl e.symm
    have hXY':=H.lt;have hYw:Y<wr.heap.size:=y;have hsw:X+2≤wr.heap.size:=qO;have cA5:w5.cell? ⟨A,k,none⟩=some _:=(k5.cell (p:=⟨A,k,none⟩) hAw).trans cA;have fA5:w5.frozen? ⟨A,k,none⟩=false:=(k5.frozen (p:=⟨A,k,none⟩) hAw).trans fA;clear i1 y y0 y1 y2 y3 yf cA fA k5;obtain ⟨y,y0,y1,y2,y3,yf⟩:=id Y5.facts4
    have rel:LnsHd w X Y b0 ls (k+1) nst nl nd nu m1 m2 m3 j1 j2 j3 (.slice (some ⟨A,0,none⟩) ls.length ls.length) ((linesF b0 (ls.take (k+1))).2 ++ List.replicate (ls.length - (k+1)) ByteArray.empty) (((((w5.setCell ⟨Y,0,none⟩ (.int .i64 nst)).setCell ⟨Y,1,none⟩ (.slice m1 nl.length j1)).setCell ⟨Y,2,none⟩ (.slice m2 nd.length j2)).setCell ⟨Y,3,none⟩ (.slice m3 nu.length j3)).setCell ⟨A,k,none⟩ (.string t)):=by
     refine ⟨by omega,by rw [HS.out],HN.out,(Y5.sets4 _ _ _ _).setOther (p:=⟨A,k,none⟩) hYA' _,?_,?_,?_,?_,fun j hj=>by have e:A=j:=Option.some.inj hj;omega,hXY',?_⟩
     · exact (((((R5.setOther (p:=⟨Y,0,none⟩) (by show X+1≠Y;omega) (.int .i64 nst)).setOther (p:=⟨Y,1,none⟩) (by show X+1≠Y;omega) (.slice m1 nl.length j1)).setOther (p:=⟨Y,2,none⟩) (by show X+1≠Y;omega) (.slice m2 nd.length j2)).setOther (p:=⟨Y,3,none⟩) (by show X+1≠Y;omega) (.slice m3 nu.length j3))).setOther (p:=⟨A,k,none⟩) (by show X+1≠A;omega) _
     · exact (((((((o5.setCell (p:=⟨Y,0,none⟩) (by show Y<_;omega) (.int .i64 nst)).setCell (p:=⟨Y,1,none⟩) (by show Y<_;omega) (.slice m1 nl.length j1)).setCell (p:=⟨Y,2,none⟩) (by show Y<_;omega) (.slice m2 nd.length j2)).setCell (p:=⟨Y,3,none⟩) (by show Y<_;omega) (.slice m3 nu.length j3)))).setCell (p:=⟨A,k,none⟩) (by show A<_;omega) _).mono hsw
     · intro j hj e
       have:=(o5.blk hj).1
       omega
     · have h1:OwnT ((((w5.setCell ⟨Y,0,none⟩ (.int .i64 nst)).setCell ⟨Y,1,none⟩ (.slice m1 nl.length j1)).setCell ⟨Y,2,none⟩ (.slice m2 nd.length j2)).setCell ⟨Y,3,none⟩ (.slice m3 nu.length j3)) (X+2) (.slice (some ⟨A,0,none⟩) ls.length ls.length) ((linesF b0 (ls.take k)).2 ++ List.replicate (ls.length - k) ByteArray.empty):=((((T5.setOther (p:=⟨Y,0,none⟩) (fun e=>hYA' (by cases e;rfl)) (.int .i64 nst)).setOther (p:=⟨Y,1,none⟩) (fun e=>hYA' (by cases e;rfl)) (.slice m1 nl.length j1)).setOther (p:=⟨Y,2,none⟩) (fun e=>hYA' (by cases e;rfl)) (.slice m2 nd.length j2)).setOther (p:=⟨Y,3,none⟩) (fun e=>hYA' (by cases e;rfl)) (.slice m3 nu.length j3))
       have h2:=h1.put (k:=k) (by rw [List.length_append,htl,List.length_replicate];omega) t;rw [zatx htl hlt t] at h2;rw [HS.out]
       exact h2
     · exact (((((b5.setCell (p:=⟨Y,0,none⟩) (by show w.heap.size≤Y;omega) (.int .i64 nst)).setCell (p:=⟨Y,1,none⟩) (by show w.heap.size≤Y;omega) (.slice m1 nl.length j1)).setCell (p:=⟨Y,2,none⟩) (by show w.heap.size≤Y;omega) (.slice m2 nd.length j2)).setCell (p:=⟨Y,3,none⟩) (by show w.heap.size≤Y;omega) (.slice m3 nu.length j3))).setCell (p:=⟨A,k,none⟩) (by show w.heap.size≤A;omega) _
    have REL:=Lib.hid rel;clear rel;go_wp2_with fail;go_roundw
    case rel=>exact ⟨k+1,nst,nl,nd,nu,m1,m2,m3,j1,j2,j3,by go_num,REL.out⟩
    case measure=>simp [intOf];omega
  · obtain rfl:k=ls.length:=by omega
    have hE1:=H.run;have hT:=H.txt;have R:=H.r;have hown:=H.own;have hXY':=H.lt;rw [List.take_length] at hE1 hT;rw [Nat.sub_self,List.replicate_zero,List.append_nil] at hT;rw [HLF.out] at hE1 hT;clear HLF H;obtain ⟨B1,T1⟩:=LF;simp only at hE1 hT;subst hE1;obtain ⟨r,r0,r1,r2,r3,rf⟩:=id R.facts4;have E:=zabl (X:=X+1) (v0:=.int .i64 sst) R hown hb qO qO;have HE:=Lib.hid E;have HT:=Lib.hid hT;clear E hT R hown;go_wp2_with fail;obtain ⟨f,f0,f1,f2,f3,-⟩:=id HE.out.r.facts4;refine bodyPost_ret (v:=.tuple #[.agg #[.int .i64 sst,.slice b1 sl.length e1,.slice b2 sd.length e2,.slice b3 su.length e3],.slice (some ⟨A,0,none⟩) ls.length ls.length]) (by simp [results,Tryz.results8,go_sem,f,f0,f1,f2,f3]) rfl ?_
    exact ⟨_,_,_,_,rfl,HE.out.o,(((((HT.out.setCell (p:=⟨X+1,0,none⟩) (by show X+1<X+2;omega) (.int .i64 sst)).setCell (p:=⟨X+1,1,none⟩) (by show X+1<X+2;omega) (.slice b1 sl.length e1)).setCell (p:=⟨X+1,2,none⟩) (by show X+1<X+2;omega) (.slice b2 sd.length e2)).setCell (p:=⟨X+1,3,none⟩) (by show X+1<X+2;omega) (.slice b3 su.length e3))).mono qO,HE.out.b⟩
set_option maxHeartbeats 8000000
theorem BkOwn.keepTexts {w w':World} {B C:Nat} {v1 v2 v3 va:Value} {b:Bk} {ts:List ByteArray} (h:BkOwn w B v1 v2 v3 b) (ht:OwnT w C va ts) (g:w.grownBy w' va.ownBlock):BkOwn w' B v1 v2 v3 b :=
 h.wr (Wr.ofGrown (R:=fun k=>va.ownBlock=some k) g fun _ e=>e) fun _ hk=>zaqs ht h hk
theorem zanh (a1 a2 a3:Option Addr) (c1 c2 c3:Nat) (st:Int) (l:List Lg) (d u:List Dd) (ax:Option Addr) (cx:Nat) (ls:List ByteArray) (w:World) (hl:l.length≤1048576) (hd:d.length≤1048576) (hu:u.length≤1048576) (hln:ls.length≤1048576) (hsz:∀ k,k<ls.length→(nth ls k).size≤1048576) (hs:RdB w a1 a2 a3 ⟨⟨st,l⟩,d,u⟩) (hls:Strs w ax ls) (hok:bkOk ⟨⟨st,l⟩,d,u⟩=true) (hlg:ls.length≤40) :
 Calls Tryz.prog 9 #[.agg #[.int .i64 st,.slice a1 l.length c1,.slice a2 d.length c2,.slice a3 u.length c3],.slice ax ls.length cx] w (LnsOut (linesF ⟨⟨st,l⟩,d,u⟩ ls) w):=by
 obtain ⟨b0,hb0⟩:=qM ((⟨⟨st,l⟩,d,u⟩:Bk));have HB0:=Lib.hid hb0;have HOK:=Lib.hid (show bkOk b0=true by rw [hb0];exact hok);rw [← hb0];clear hb0;obtain ⟨LF,hLF⟩:=qN (linesF b0 ls);rw [hLF];have HLF:=Lib.hid hLF;clear hLF;obtain ⟨X,hX⟩:=qN (w.heap.size);obtain ⟨W1,hW1⟩:=qM ((w.alloc (.cells #[.int .i64 st,.slice a1 l.length c1,.slice a2 d.length c2,.slice a3 u.length c3] 28)).alloc (.cells #[.int .i64 0,.slice none 0 0,.slice none 0 0,.slice none 0 0] 28))
 have F0:At W1 X [.int .i64 st,.slice a1 l.length c1,.slice a2 d.length c2,.slice a3 u.length c3]:=by rw [hW1];exact (At.new _ _ _ hX.symm rfl).alloc _
 have R0:At W1 (X+1) [.int .i64 0,.slice none 0 0,.slice none 0 0,.slice none 0 0]:=by rw [hW1];exact At.new _ _ _ (by simp [hX]) rfl
 have b0':Below w.heap.size w W1:=by rw [hW1];exact qBl
 go_enter Tryz.func9,Tryz.ntmps9
 go_wp2_with fail;rw [← hW1]
 have hXs:W1.heap.size=X+1+1:=by rw [hW1];simp [hX]
 have hLit:=KOwn.lit (K:=strK) (T:=9) W1 (X+2) qO;rw [hXs] at hLit;replace F0:=F0.alloc (.cells #[] 9);replace R0:=R0.alloc (.cells #[] 9);replace b0':=b0'.alloc b0'.size (.cells #[] 9);obtain ⟨W2,hW2⟩:=qM (W1.alloc (.cells #[] 9));rw [← hW2] at F0 R0 b0' hLit ⊢;clear hW2 hXs;clear hW1;refine (zaak _ _ _ _ _ _ st l d u _ hl hd hu (hs.below b0')).mono ?_;rintro e w1 ⟨rfl,k1⟩;rw [hok];replace F0:=F0.below k1;replace R0:=R0.below k1;replace hLit:=hLit.below k1;replace b0':=b0'.trans (k1.mono b0'.size);have hLw:X+1+1<w1.heap.size:=(KOwn.lt hLit (k:=X+1+1) rfl).2;clear k1;have HK:=Lib.hid hok;clear hok;obtain ⟨y,y0,y1,y2,y3,-⟩:=id F0.facts4;go_wp2_with fail;refine (zabw _ _ _ _ _ _ st l d u _ hl hd hu (hs.below b0')).mono ?_;rintro e w2 ⟨v1,v2,v3,rfl,o2,k2⟩;obtain ⟨p1,q1,p2,q2,p3,q3,rfl,rfl,rfl⟩:=o2.forms;have hz1:=R0.lt;have hk2:=k2.size;replace R0:=R0.below k2;replace hLit:=hLit.below k2;replace b0':=b0'.trans (k2.mono b0'.size);simp only at o2;clear k2 F0 y y0 y1 y2 y3;go_upto_region 5 with fail;obtain ⟨Y,hY⟩:=qN (w2.heap.size);obtain ⟨W3,hW3⟩:=qM (w2.alloc (.cells #[.int .i64 st,.slice p1 l.length q1,.slice p2 d.length q2,.slice p3 u.length q3] 28))
 have k3:Below w2.heap.size w2 W3:=by rw [hW3];exact qBl
 have Y0:At W3 Y [.int .i64 st,.slice p1 l.length q1,.slice p2 d.length q2,.slice p3 u.length q3]:=by rw [hW3];exact At.new _ _ _ hY.symm rfl
 have hne:∀ j,bkBlk (.slice p1 l.length q1) (.slice p2 d.length q2) (.slice p3 u.length q3) j→j≠Y:=fun j hj=>by have:=(o2.blk hj).2;omega
 rw [hY,← hW3]
 have hXY:X+1<Y:=by have:=R0.lt;omega
 have hLY:X+1+1<Y:=qO;replace R0:=R0.below k3;replace o2:=(o2.below k3).mono (B':=X+2) qO;replace hLit:=hLit.below k3;replace b0':=b0'.trans (k3.mono b0'.size);clear hW3 k3 hY hz1
 have hd0:LnsHd w X Y b0 ls 0 st l d u p1 p2 p3 q1 q2 q3 (.slice (some ⟨X+1+1,0,none⟩) 0 0) (linesF b0 (ls.take 0)).2 W3 :=
  ⟨Nat.zero_le _,HB0.out,HK.out,Y0,R0,o2,hne,hLit,(fun j hj=>by have e:X+1+1=j:=Option.some.inj hj;omega),hXY,b0'⟩
 clear Y0 R0 o2 hne hLit b0';go_wp2_with fail
 go_loopw [6,8] (fun v i wr=>∃ (k:Nat) (sst:Int) (sl:List Lg) (sd su:List Dd) (b1 b2 b3:Option Addr) (e1 e2 e3:Nat),i=.int .i64 (k:Int)∧LnsHd w X Y b0 ls k sst sl sd su b1 b2 b3 e1 e2 e3 v (linesF b0 (ls.take k)).2 wr) (fun _ i _=>ls.length - (intOf i).toNat)
 case atStart=>exact ⟨0,st,l,d,u,p1,p2,p3,q1,q2,q3,by first|rfl|go_num,hd0⟩
 case round =>
  clear hd0;obtain ⟨k,sst,sl,sd,su,b1,b2,b3,e1,e2,e3,rfl,H⟩:=hrel;have hb:=H.b;have hle:=H.le;have hXw:w.heap.size≤X:=qO
  have htl:(linesF b0 (ls.take k)).2.length=k:=by rw [zac3,List.length_take];omega
  obtain ⟨y,y0,y1,y2,y3,yf⟩:=id H.y.facts4;obtain ⟨ts,hts⟩:=qN ((linesF b0 (ls.take k)).2);rw [hts] at htl;have HTL:=Lib.hid htl;have HTS:=Lib.hid hts;clear htl
  by_cases hlt:k<ls.length
  · have hlens:=zab1 H.ok
    simp only at hlens;obtain ⟨⟨⟨⟨nst,nl⟩,nd,nu⟩,t⟩,hP⟩:=qN (lineF ⟨⟨sst,sl⟩,sd,su⟩ (nth ls k))
    have K:=Lib.hid (fun W h=>zanj b1 b2 b3 e1 e2 e3 sst sl sd su (nth ls k) W qO qO qO (hsz k hlt) h)
    rw [hP] at K;have HOK2:=zajc H.ok (nth ls k);rw [hP] at HOK2;have HN:=Lib.hid HOK2.ok;have hstep:=zail hlt b0;rw [H.run,hP,hts] at hstep;have HS:=Lib.hid hstep;have htxt:=H.txt;rw [hts] at htxt;have hown:=H.own;have hnt:=H.nt;have hyy:=H.y;have hrr:=H.r;have hXY':=H.lt;have hq:=hown.kr;clear hstep HOK2 hP hts H;obtain ⟨av,cv,rfl⟩:=htxt.sl;obtain ⟨bb,off,rfl,hbw,m0⟩:=Strs.at (hls.below hb) hlt;have hlt2:(k:Int)<(ls.length:Int):=qO;go_upto_region 8 with fail;have i1:=K.out;unfold LnOut at i1;simp only at i1;have I1:=Lib.hid i1;clear i1 K
    go_cut [9,10] (fun p9 p10 wx=>p10=.string t∧BoxB wr ⟨⟨nst,nl⟩,nd,nu⟩ p9 wx)
    case first =>
     go_region_held3 (fun w'=>Below wr.heap.size wr w'∧∀ b o,b<wr.heap.size→w'.cell? ⟨b,o,none⟩=wr.cell? ⟨b,o,none⟩) (exact kept qHb)
      ((go_at_call 21;refine (I1.out _ (hq.below qHb)).mono ?_;rintro e wz ⟨vz1,vz2,vz3,rfl,oz,c⟩;obtain ⟨az1,cz1,az2,cz2,az3,cz3,rfl,rfl,rfl⟩:=oz.forms;have Bz:=zaae (V:=wr) qHb c;have zz:=Bz.size;(first|have hA0:=A0.lt|skip);(first|have A0:=A0.below c|have A0:=A0.drew.below c|have A0:=At.born c|have A0:=At.bornD c|skip);(first|obtain ⟨jz0,jz1,jz2,jz3,jz4,jz5⟩:=A0.facts4|skip);clear c))
     all_goals (go_wp2_with fail;go_meet)
     all_goals exact ⟨rfl,(by first|with_reducible exact zawp (b:=⟨⟨nst,nl⟩,nd,nu⟩) oz qSo Bz|exact zawq (b:=⟨⟨nst,nl⟩,nd,nu⟩) A0 qSo oz qSo (by first|exact hA0|simp) Bz)⟩
    case rest =>
     obtain ⟨rfl,Z,m1,m2,m3,j1,j2,j3,rfl,hZ,AZ,oz,nz,bZ⟩:=hcut;simp only at AZ oz nz;have Y5:=hyy.below bZ;have R5:=hrr.below bZ;have T5:=htxt.below bZ;have b5:=hb.trans (bZ.mono hb.size);have hYw:Y<wr.heap.size:=y;have hsw:X+2≤wr.heap.size:=qO
     have hTY:(Value.slice av ts.length cv).ownBlock≠some Y:=fun e=>hnt Y e rfl
     clear m0 y y0 y1 y2 y3 yf hq bZ hyy hrr htxt hown I1;obtain ⟨y,y0,y1,y2,y3,yf⟩:=id Y5.facts4;obtain ⟨z,z0,z1,z2,z3,zf⟩:=id AZ.facts4;go_upto_region 10 with fail;have Y6:=Y5.sets4 (.int .i64 nst) (.slice m1 nl.length j1) (.slice m2 nd.length j2) (.slice m3 nu.length j3);have R6:=((((R5.setOther (p:=⟨Y,0,none⟩) (by show X+1≠Y;omega) (.int .i64 nst)).setOther (p:=⟨Y,1,none⟩) (by show X+1≠Y;omega) (.slice m1 nl.length j1)).setOther (p:=⟨Y,2,none⟩) (by show X+1≠Y;omega) (.slice m2 nd.length j2)).setOther (p:=⟨Y,3,none⟩) (by show X+1≠Y;omega) (.slice m3 nu.length j3));have O6:=((((oz.setCell (p:=⟨Y,0,none⟩) (by show Y<_;omega) (.int .i64 nst)).setCell (p:=⟨Y,1,none⟩) (by show Y<_;omega) (.slice m1 nl.length j1)).setCell (p:=⟨Y,2,none⟩) (by show Y<_;omega) (.slice m2 nd.length j2)).setCell (p:=⟨Y,3,none⟩) (by show Y<_;omega) (.slice m3 nu.length j3));have T6:=((((T5.setOther (p:=⟨Y,0,none⟩) hTY (.int .i64 nst)).setOther (p:=⟨Y,1,none⟩) hTY (.slice m1 nl.length j1)).setOther (p:=⟨Y,2,none⟩) hTY (.slice m2 nd.length j2)).setOther (p:=⟨Y,3,none⟩) hTY (.slice m3 nu.length j3));have b6:=((((b5.setCell (p:=⟨Y,0,none⟩) (by show w.heap.size≤Y;omega) (.int .i64 nst)).setCell (p:=⟨Y,1,none⟩) (by show w.heap.size≤Y;omega) (.slice m1 nl.length j1)).setCell (p:=⟨Y,2,none⟩) (by show w.heap.size≤Y;omega) (.slice m2 nd.length j2)).setCell (p:=⟨Y,3,none⟩) (by show w.heap.size≤Y;omega) (.slice m3 nu.length j3));generalize (((wc.setCell ⟨Y,0,none⟩ (.int .i64 nst)).setCell ⟨Y,1,none⟩ (.slice m1 nl.length j1)).setCell ⟨Y,2,none⟩ (.slice m2 nd.length j2)).setCell ⟨Y,3,none⟩ (.slice m3 nu.length j3)=w6 at *;clear Y5 R5 AZ oz T5 b5 y y0 y1 y2 y3 yf z z0 z1 z2 z3 zf hnt
     have hwX2:X+2≤w6.heap.size:=by have:=Y6.lt;omega
     have htl2:ts.length≤1048576:=by have:=HTL.out;omega
     go_wp2_with (at_builtin;refine zaaj strI _ _ rfl rfl (X+2) _ ts [t] (some ⟨w6.heap.size,0,none⟩) 1 rfl (T6.alloc _) rfl (zaid _ _ _) qO qP (by simp;omega) ?_;rintro av7 cv7 w7 o7 g7 b7 n7)
     rw [List.length_append] at o7;have al7:Below w6.heap.size w6 (w6.alloc (.cells #[.string t] 9)):=qBl;have hY6:=Y6.lt
     have hn7:∀ j,(Value.slice av7 (ts.length+1) cv7).ownBlock=some j→j≠Y:=by
      intro j hj e;subst e;rw [List.length_append] at n7
      rcases n7 with e|e
      · exact hTY ((zaat av ts.length cv _ _).trans (e.symm.trans ((zaat _ _ _ _ _).trans hj)))
      · have h3:=((zaat _ _ _ _ _).trans hj).symm.trans e
        have h4:=Option.some.inj h3
        simp at h4
        omega
     have rel:LnsHd w X Y b0 ls (k+1) nst nl nd nu m1 m2 m3 j1 j2 j3 (.slice av7 (ts.length+1) cv7) (linesF b0 (ls.take (k+1))).2 w7:=by
      have g8:=g7
      refine ⟨by omega,by rw [HS.out],HN.out,?_,?_,?_,?_,by rw [HS.out];exact o7,hn7,hXY',?_⟩
      · exact (Y6.below al7).block (g7.block Y (by simp;omega) (fun e=>hTY ((zaat _ _ _ _ _).trans e.symm)))
      · exact (R6.below al7).belowB b7 qO
      · exact BkOwn.mono (BkOwn.keepTexts ((O6.below al7).mono hsw) (T6.below al7) g7) (Nat.le_refl _)
      · intro j hj e
        have:=(O6.blk hj).1
        omega
      · exact (b6.trans (al7.mono b6.size)).trans (b7.mono qO)
     have REL:=Lib.hid rel;clear rel;go_roundw
     case rel=>exact ⟨k+1,nst,nl,nd,nu,m1,m2,m3,j1,j2,j3,by go_num,REL.out⟩
     case measure=>simp [intOf];omega
  · obtain rfl:k=ls.length:=by omega
    have hE1:=H.run;have hT:=H.txt;have R:=H.r;have hown:=H.own;have hXY':=H.lt;rw [List.take_length] at hE1 hT;rw [HLF.out] at hE1 hT;clear HTS hts HTL;clear HLF H;obtain ⟨B1,T1⟩:=LF;simp only at hE1 hT;subst hE1;obtain ⟨av,cv,rfl⟩:=hT.sl;obtain ⟨r,r0,r1,r2,r3,rf⟩:=id R.facts4;have E:=zabl (X:=X+1) (v0:=.int .i64 sst) R hown hb qO qO;have HE:=Lib.hid E;have HT:=Lib.hid hT;clear E hT R hown;go_wp2_with fail;obtain ⟨f,f0,f1,f2,f3,-⟩:=id HE.out.r.facts4;refine bodyPost_ret (v:=.tuple #[.agg #[.int .i64 sst,.slice b1 sl.length e1,.slice b2 sd.length e2,.slice b3 su.length e3],.slice av T1.length cv]) (by simp [results,Tryz.results9,go_sem,f,f0,f1,f2,f3]) rfl ?_
    exact ⟨_,_,_,_,rfl,HE.out.o,(((((HT.out.setCell (p:=⟨X+1,0,none⟩) (by show X+1<X+2;omega) (.int .i64 sst)).setCell (p:=⟨X+1,1,none⟩) (by show X+1<X+2;omega) (.slice b1 sl.length e1)).setCell (p:=⟨X+1,2,none⟩) (by show X+1<X+2;omega) (.slice b2 sd.length e2)).setCell (p:=⟨X+1,3,none⟩) (by show X+1<X+2;omega) (.slice b3 su.length e3))).mono qO,HE.out.b⟩
theorem zaet (a1 a2 a3:Option Addr) (c1 c2 c3:Nat) (st:Int) (l:List Lg) (d u:List Dd) (ax:Option Addr) (cx:Nat) (ls:List ByteArray) (w:World) (hl:l.length≤1048576) (hd:d.length≤1048576) (hu:u.length≤1048576) (hln:ls.length≤1048576) (hsz:∀ k,k<ls.length→(nth ls k).size≤1048576) (hs:RdB w a1 a2 a3 ⟨⟨st,l⟩,d,u⟩) (hls:Strs w ax ls) (hw:Lby w):Calls Tryz.prog 8 #[.agg #[.int .i64 st,.slice a1 l.length c1,.slice a2 d.length c2,.slice a3 u.length c3],.slice ax ls.length cx] w (LnsOut (linesTop ⟨⟨st,l⟩,d,u⟩ ls) w):=by
 cases hok:bkOk ⟨⟨st,l⟩,d,u⟩
 · rw [zabz (by rw [hok];simp)]
   exact zang a1 a2 a3 c1 c2 c3 st l d u ax cx ls w hl hd hu hln hsz hs hls hok
 · by_cases hlg:ls.length≤40
   · rw [zacq hok hlg]
     exact zaof a1 a2 a3 c1 c2 c3 st l d u ax cx ls w hl hd hu hln hsz hs hls hw hok hlg
   · rw [zabz (fun h=>hlg h.2)]
     exact zalg a1 a2 a3 c1 c2 c3 st l d u ax cx ls w hl hd hu hln hsz hs hls hok qO
theorem zali (a1 a2 a3:Option Addr) (c1 c2 c3:Nat) (st:Int) (l:List Lg) (d u:List Dd) (ax:Option Addr) (cx:Nat) (ls:List ByteArray) (w:World) (hl:l.length≤1048576) (hd:d.length≤1048576) (hu:u.length≤1048576) (hln:ls.length≤1048576) (hsz:∀ k,k<ls.length→(nth ls k).size≤1048576) (hs:RdB w a1 a2 a3 ⟨⟨st,l⟩,d,u⟩) (hls:Strs w ax ls):Calls Tryz.prog 9 #[.agg #[.int .i64 st,.slice a1 l.length c1,.slice a2 d.length c2,.slice a3 u.length c3],.slice ax ls.length cx] w (LnsOut (linesTop ⟨⟨st,l⟩,d,u⟩ ls) w):=by
 cases hok:bkOk ⟨⟨st,l⟩,d,u⟩
 · rw [zabz (by rw [hok];simp)]
   exact zalh a1 a2 a3 c1 c2 c3 st l d u ax cx ls w hl hd hu hln hsz hs hls hok
 · by_cases hlg:ls.length≤40
   · rw [zacq hok hlg]
     exact zanh a1 a2 a3 c1 c2 c3 st l d u ax cx ls w hl hd hu hln hsz hs hls hok hlg
   · rw [zabz (fun h=>hlg h.2)]
     exact zajx a1 a2 a3 c1 c2 c3 st l d u ax cx ls w hl hd hu hln hsz hs hls hok qO
set_option maxHeartbeats 4000000
def DrawnBLs (w:World) (e:Ending) (w':World):Prop:=∃ (b:Bk) (v1 v2 v3:Value) (g cx:Nat) (ls:List ByteArray),e=.returned (.tuple #[.agg #[.int .i64 b.first.st,v1,v2,v3],.slice (some ⟨g,0,none⟩) ls.length cx])∧BkOwn w' w.heap.size v1 v2 v3 b∧Szd 41 b∧OwnT w' w.heap.size (.slice (some ⟨g,0,none⟩) ls.length cx) ls∧ls.length≤41∧(∀ t ∈ ls,t.size≤400)∧Below w.heap.size w w'
structure BlSt (w:World) (R X Z B:Nat) (a:Option Addr) (n c q:Nat) (st:Int) (l:List Lg) (d u:List Dd) (a1 a2 a3:Option Addr) (c1 c2 c3:Nat) (va:Value) (ls:List ByteArray) (wr:World):Prop where
 r:Rdr wr R a n c q
 x:At wr X [.int .i64 0,.slice none 0 0,.slice none 0 0,.slice none 0 0]
 z:At wr Z [.int .i64 st,.slice a1 l.length c1,.slice a2 d.length c2,.slice a3 u.length c3]
 o:BkOwn wr B (.slice a1 l.length c1) (.slice a2 d.length c2) (.slice a3 u.length c3) ⟨⟨st,l⟩,d,u⟩
 t:OwnT wr B va ls
 nt:∀ j,va.ownBlock=some j→j≠Z
 b:Below w.heap.size w wr
 zs:∀ t ∈ ls,t.size≤400
 sm:∃ g m cx,va=.slice (some ⟨g,0,none⟩) m cx
theorem BlSt.upto {w wr w2:World} {R X Z B:Nat} {a:Option Addr} {n c q q2:Nat} {st:Int} {l:List Lg} {d u:List Dd} {a1 a2 a3:Option Addr} {c1 c2 c3:Nat} {va:Value} {ls:List ByteArray} (h:BlSt w R X Z B a n c q st l d u a1 a2 a3 c1 c2 c3 va ls wr) (hr:Rdr w2 R a n c q2) (u2:Upto wr.heap.size R wr w2) (hXR:X≠R) (hZR:Z≠R) (hRB:R<B) (hwR:w.heap.size≤R):BlSt w R X Z B a n c q2 st l d u a1 a2 a3 c1 c2 c3 va ls w2 :=
 ⟨hr,h.x.upto u2 h.x.lt hXR,h.z.upto u2 h.z.lt hZR,BkOwn.upto h.o hRB u2 (Nat.le_refl _),KOwn.upto h.t hRB u2 (fun k hk=>(KOwn.lt h.t hk).2),h.nt,zaox h.b hwR h.b.size u2,h.zs,h.sm⟩
theorem zaii (a:Option Addr) (n c:Nat) (w:World) (hc:n≤c) (hn:n≤1048576) (hb:Bytes w a n):Calls Tryz.prog 7 #[.slice a n c] w (DrawnBLs w):=by
 obtain ⟨X,hX⟩:=qN (w.heap.size);obtain ⟨W0,hW0⟩:=qM (w.alloc (.cells #[.int .i64 0,.slice none 0 0,.slice none 0 0,.slice none 0 0] 28))
 have S0:At W0 X [.int .i64 0,.slice none 0 0,.slice none 0 0,.slice none 0 0]:=by rw [hW0];exact At.new _ _ _ hX.symm rfl
 have b0:Below w.heap.size w W0:=by rw [hW0];exact qBl
 go_enter Tryz.func7,Tryz.ntmps7
 go_wp2_with fail;rw [← hW0];clear hW0;refine (zaqw a n c _ hc hn (hb.below b0)).mono ?_;rintro e w1 ⟨n',c',rfl,hr,b1⟩;obtain ⟨R,hR⟩:=qN (W0.heap.size);rw [hR] at hr ⊢
 have hXR:X<R:=by have:=S0.lt;omega
 replace S0:=S0.below b1;replace b0:=b0.trans (b1.mono b0.size);clear b1 hR
 have hcode:∀ b off,0<n'→a=some ⟨b,off,none⟩→b<w1.heap.size:=fun b off h0 e=>by
  obtain ⟨b',off',e',hlt,_⟩:=hr.bytes h0;rw [e] at e'
  cases e'
  exact hlt
 go_wp2_with fail;refine (zaq7 R a n' c' 0 12 _ hr qO qO).mono ?_;rintro e w2 ⟨⟨⟨st,l⟩,d,u⟩,v1,v2,v3,q,rfl,o,hsz,hq,hr2,u2⟩;obtain ⟨a1,c1,a2,c2,a3,c3,rfl,rfl,rfl⟩:=o.forms;have hb2:w.heap.size≤w1.heap.size:=b0.size;have hRB:R<w1.heap.size:=hr.lt;have hXB:X<w1.heap.size:=S0.lt;have hBu:=u2.size;replace S0:=S0.upto u2 S0.lt qO;replace b0:=zaox b0 qO hb2 u2;have hl:l.length≤10:=hsz.1;have hdu:d.length+u.length≤41:=hsz.2.1;obtain ⟨B,hB⟩:=qN (w1.heap.size);rw [hB] at o hcode hRB hXB hBu;simp only at o ⊢;clear u2 hr;go_upto_region 3 with fail;obtain ⟨Z,hZ⟩:=qN (w2.heap.size);obtain ⟨V,hV⟩:=qM (w2.alloc (.cells #[.int .i64 st,.slice a1 l.length c1,.slice a2 d.length c2,.slice a3 u.length c3] 28))
 have Z0:At V Z [.int .i64 st,.slice a1 l.length c1,.slice a2 d.length c2,.slice a3 u.length c3]:=by rw [hV];exact At.new _ _ _ hZ.symm rfl
 have bV:Below w2.heap.size w2 V:=by rw [hV];exact qBl
 rw [hZ,← hV]
 have hRZ:R<Z:=by have:=hr2.lt;omega
 replace S0:=S0.below bV;replace o:=o.below bV;replace hr2:=hr2.below bV;replace b0:=b0.trans (bV.mono b0.size);have hBZ:B≤Z:=qO;clear hV bV hZ;go_upto_region 4 with fail;obtain ⟨Y,hY⟩:=qN (V.heap.size)
 have hZY:Z<Y:=by have:=Z0.lt;omega
 have LT:=KOwn.lit (K:=strK) (T:=9) V B qO;obtain ⟨V2,hV2⟩:=qM (V.alloc (.cells #[] 9))
 have b3:Below V.heap.size V V2:=by rw [hV2];exact qBl
 rw [← hV2,hY] at LT;rw [hY,← hV2]
 have H0:BlSt w R X Z B a n' c' q st l d u a1 a2 a3 c1 c2 c3 (.slice (some ⟨Y,0,none⟩) 0 0) [] V2 :=
  ⟨hr2.below b3,S0.below b3,Z0.below b3,o.below b3,LT,fun j hj=>by have e:Y=j:=Option.some.inj hj;omega,b0.trans (b3.mono b0.size),(fun t ht=>by cases ht),⟨_,_,_,rfl⟩⟩
 clear hr2 S0 Z0 o LT b0 b3 hV2 hY hb;go_wp2_with fail;refine (zaao _ _ _ _ _ _ _ H0.r qO qO).mono ?_;rintro e w3 ⟨k,rfl,hk,-,hr3,u3⟩;replace hk:=hk qO;have hwR:w.heap.size≤R:=qO;have H1:=H0.upto hr3 (u3 _) qO qO hRB hwR;clear H0 u3 hr3;go_wp2_with fail
 go_loopw [6,7] (fun v i wr=>∃ (k q2:Nat) (va:Value) (ls:List ByteArray),k≤9∧ls.length+k≤9∧q2+40*k≤q+500∧v=va∧i=.int .i64 (k:Int)∧BlSt w R X Z B a n' c' q2 st l d u a1 a2 a3 c1 c2 c3 va ls wr) (fun _ i _=>(intOf i).toNat)
 case atStart=>exact ⟨k,q+1,_,[],by omega,by simp;omega,by omega,rfl,rfl,H1⟩
 case round =>
  clear H1 hk;obtain ⟨k,q2,va,ls,hk9,hlen,hqq,rfl,rfl,H⟩:=hrel;obtain ⟨av,cv,rfl⟩:=KOwn.sl H.t;obtain ⟨gv,mv,cv',hsm⟩:=H.sm
  obtain ⟨rfl,-,-⟩:av=some ⟨gv,0,none⟩∧ls.length=mv∧cv=cv':=by simpa using hsm
  clear hsm
  by_cases hlt:0<k
  · have hk0:((k:Int) > 0):=by omega
    have hr:=H.r;have ho:=H.o;obtain ⟨z,z0,z1,z2,z3,-⟩:=id H.z.facts4;go_wp2_with fail;refine (zaq8 R B a n' c' q2 a1 a2 a3 c1 c2 c3 st l d u _ hr qO hl hdu hRB ho).mono ?_;rintro e w4 ⟨t,q4,rfl,hts,hq4,hr4,u4⟩;have H2:=H.upto hr4 u4 qO qO hRB hwR;have HZ:=Lib.hid H2
    have hBw:B≤w4.heap.size:=by have:=H2.z.lt;omega
    have T2:=H2.t;have HL:=Lib.hid hlen;have hl9:ls.length≤1048576:=qO;clear u4 hr4 hr ho H H2 z z0 z1 z2 z3 hlen
    go_wp2_with (at_builtin;refine zaaj strI _ _ rfl rfl B _ ls [t] (some ⟨w4.heap.size,0,none⟩) 1 rfl (T2.alloc _) rfl (zaid _ _ _) qO qP (by simp;omega) ?_;rintro av7 cv7 w7 o7 g7 b7 n7)
    rw [List.length_append] at o7;have H2:=HZ.out;have al7:Below w4.heap.size w4 (w4.alloc (.cells #[.string t] 9)):=qBl
    have hTZ:(Value.slice (some ⟨gv,0,none⟩) ls.length cv).ownBlock≠some Z:=fun e=>H2.nt Z e rfl
    have hZ4:=H2.z.lt;have b47:Below B w4 w7:=(al7.mono hBw).trans b7
    have hn7:∀ j,(Value.slice av7 (ls.length+1) cv7).ownBlock=some j→j≠Z:=by
     intro j hj e;subst e;rw [List.length_append] at n7
     rcases n7 with e|e
     · exact hTZ ((zaat (some ⟨gv,0,none⟩) ls.length cv _ _).trans (e.symm.trans ((zaat _ _ _ _ _).trans hj)))
     · have h3:=((zaat _ _ _ _ _).trans hj).symm.trans e
       have h4:=Option.some.inj h3
       simp at h4
       omega
    have rel:BlSt w R X Z B a n' c' q4 st l d u a1 a2 a3 c1 c2 c3 (.slice av7 (ls.length+1) cv7) (ls ++ [t]) w7:=by
     refine ⟨Rdr.keep H2.r hRB hcode b47,H2.x.belowB b47 hXB,?_,BkOwn.keepTexts (H2.o.below al7) (KOwn.below H2.t al7) g7,o7,hn7,H2.b.trans (b47.mono qO),?_,?_⟩
     · exact (H2.z.below al7).block (g7.block Z (by simp;omega) (fun e=>hTZ ((zaat _ _ _ _ _).trans e.symm)))
     · intro x hx
       rcases List.mem_append.1 hx with h|h
       · exact H2.zs x h
       · rw [List.mem_singleton.1 h];exact hts
     · obtain ⟨g,cap,f,e,_⟩:=KOwn.row o7 qP
       exact ⟨g,_,cap,e⟩
    have REL:=Lib.hid rel;clear rel H2 T2 o7 g7 b7 n7 al7 hn7 hTZ;have hlen:=HL.out;go_roundw
    case rel=>exact ⟨k - 1,q4,_,ls ++ [t],by omega,by rw [List.length_append];show ls.length+1+(k - 1)≤9;omega,by omega,rfl,by go_num,REL.out⟩
    case measure=>simp [intOf];omega
  · obtain rfl:k=0:=by omega
    have hr:=H.r;go_wp2_with fail;refine (zaka R a n' c' _ 30 _ hr qO qO qO).mono ?_;rintro e w4 ⟨ob,rfl,hr4,u4⟩;have H2:=H.upto hr4 (u4 _) qO qO hRB hwR;have zs:=H2.zs;have x4:=H2.x;have z4:=H2.z;have o4:=H2.o;have t4:=H2.t;have b4:=H2.b;clear u4 hr4 hr H H2
    cases ob with
    | false =>
      obtain ⟨r,r0,r1,r2,r3,rf⟩:=id x4.facts4;obtain ⟨z,z0,z1,z2,z3,-⟩:=id z4.facts4;have E:=zabl (X:=X) (v0:=.int .i64 st) x4 o4 b4 qO qO;have HE:=Lib.hid E;clear E;go_wp2_with fail;obtain ⟨f,f0,f1,f2,f3,-⟩:=id HE.out.r.facts4;refine bodyPost_ret (v:=.tuple #[.agg #[.int .i64 st,.slice a1 l.length c1,.slice a2 d.length c2,.slice a3 u.length c3],.slice (some ⟨gv,0,none⟩) ls.length cv]) (by simp [results,Tryz.results7,go_sem,f,f0,f1,f2,f3]) rfl ?_
      exact ⟨⟨⟨st,l⟩,d,u⟩,_,_,_,_,_,ls,rfl,HE.out.o,hsz,(((((t4.setCell (p:=⟨X,0,none⟩) (by show X<B;omega) (.int .i64 st)).setCell (p:=⟨X,1,none⟩) (by show X<B;omega) (.slice a1 l.length c1)).setCell (p:=⟨X,2,none⟩) (by show X<B;omega) (.slice a2 d.length c2)).setCell (p:=⟨X,3,none⟩) (by show X<B;omega) (.slice a3 u.length c3))).mono qO,by omega,zs,HE.out.b⟩
    | true =>
      have mi:∀ W:World,(Instr.makeSlice 29 (.int .i64 41) (.int .i64 41)).run Tryz.prog W=.ok (.slice (some ⟨W.heap.size,0,none⟩) 41 41) (W.alloc (.cells (madeCells #[.string ByteArray.empty] 41) 9)):=fun W=>zaim 41 qO W
      have hBw:B≤w4.heap.size:=by have:=z4.lt;omega
      have TX:=OwnT.made w4 B 41 hBw qO;go_upto_region 10 with fail;obtain ⟨Y2,hY2⟩:=qN (w4.heap.size);obtain ⟨w5,hw5⟩:=qM (w4.alloc (.cells (madeCells #[.string ByteArray.empty] 41) 9))
      have k5:Below w4.heap.size w4 w5:=by rw [hw5];exact qBl
      rw [← hw5,hY2] at TX;rw [hY2,← hw5];have x5:=x4.below k5;have z5:=z4.below k5;have o5:=o4.below k5;have b5:=b4.trans (k5.mono b4.size);clear hw5 hY2 k5 x4 z4 o4 t4 b4 mi;obtain ⟨r,r0,r1,r2,r3,rf⟩:=id x5.facts4;obtain ⟨z,z0,z1,z2,z3,-⟩:=id z5.facts4;have E:=zabl (X:=X) (v0:=.int .i64 st) x5 o5 b5 qO qO;have HE:=Lib.hid E;clear E;go_wp2_with fail;obtain ⟨f,f0,f1,f2,f3,-⟩:=id HE.out.r.facts4;refine bodyPost_ret (v:=.tuple #[.agg #[.int .i64 st,.slice a1 l.length c1,.slice a2 d.length c2,.slice a3 u.length c3],.slice (some ⟨Y2,0,none⟩) 41 41]) (by simp [results,Tryz.results7,go_sem,f,f0,f1,f2,f3]) rfl ?_
      exact ⟨⟨⟨st,l⟩,d,u⟩,_,_,_,_,_,List.replicate 41 ByteArray.empty,by rw [List.length_replicate],HE.out.o,hsz,by rw [List.length_replicate];exact (((((TX.setCell (p:=⟨X,0,none⟩) (by show X<B;omega) (.int .i64 st)).setCell (p:=⟨X,1,none⟩) (by show X<B;omega) (.slice a1 l.length c1)).setCell (p:=⟨X,2,none⟩) (by show X<B;omega) (.slice a2 d.length c2)).setCell (p:=⟨X,3,none⟩) (by show X<B;omega) (.slice a3 u.length c3))).mono qO,by simp,(fun t ht=>by rw [(List.mem_replicate.1 ht).2];decide),HE.out.b⟩
end Go.Proofs.YthfoloefkfadlaaGreatDoor
