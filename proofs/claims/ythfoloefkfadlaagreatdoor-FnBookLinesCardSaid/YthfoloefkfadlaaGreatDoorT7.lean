/- Walks: texts of books, impl and spec. -/
import Derived.Test.YthfoloefkfadlaaGreatDoorT1
import Derived.Test.YthfoloefkfadlaaGreatDoorK9
set_option linter.unusedSimpArgs false
set_option linter.unusedVariables false
namespace Go.Proofs.YthfoloefkfadlaaGreatDoor
open Go Go.RowKit Go.Sort
theorem zaql (a1 a2 a3:Option Addr) (c1 c2 c3:Nat) (n:Int) (l:List Lg) (d u:List Dd) (w:World) (hl:l.length≤1048576) (hd:d.length≤1048576) (hu:u.length≤1048576) (hs:RdB w a1 a2 a3 ⟨⟨n,l⟩,d,u⟩) (hp:Pow w) :
 Calls Tryz.prog 16 #[.agg #[.int .i64 n,.slice a1 l.length c1,.slice a2 d.length c2,.slice a3 u.length c3]] w fun e w'=>e=.returned (.string (bookB ⟨⟨n,l⟩,d,u⟩))∧Below w.heap.size w w':=by
 have i1:=fun w h=>zaan a1 a2 a3 c1 c2 c3 n l d u w hl hd hu h
 cases hv:bkOk ⟨⟨n,l⟩,d,u⟩
 · have HB:=Lib.hid (show bookB ⟨⟨n,l⟩,d,u⟩=⟨#[]⟩ by simp [bookB,hv])
   rw [hv] at i1
   go_enter Tryz.func16,Tryz.ntmps16
   go_wp2_with (go_at_call 33;refine (i1 _ (hs.below qBl)).mono ?_;rintro e w1 ⟨rfl,b1⟩)
   go_ret
   exact ⟨by rw [HB.out];first|done|rfl,((Below.refl _ _).alloc (Nat.le_refl _) _).trans (b1.mono qP)⟩
 have HB:=Lib.hid (show bookB ⟨⟨n,l⟩,d,u⟩=linesB (surveyB ⟨n,l⟩ ++ ⟨#[10]⟩) d by simp [bookB,hv])
 have hd40:d.length+u.length≤40:=by
  by_cases h:40<d.length+u.length
  · rw [zahv h] at hv;cases hv
  · omega
 have z1:=zald (n:=n) (l:=l) (by
  cases h:svOk ⟨n,l⟩
  · rw [zajm h] at hv;cases hv
  · rfl)
 have z0:(⟨#[10]⟩:ByteArray).size=1:=rfl;obtain ⟨S,hS⟩:=qM (surveyB ⟨n,l⟩)
 have i0:=fun w h hp=>zaeh a1 c1 n l w hl h hp
 simp only [← hS] at i0 z1 HB;obtain ⟨T,hT⟩:=qM (S ++ ⟨#[10]⟩)
 have zT:T.size≤2001:=by rw [hT,ByteArray.size_append];omega
 rw [← hT] at HB;rw [hv] at i1
 go_enter Tryz.func16,Tryz.ntmps16
 go_wp2_with fail;refine (i1 _ (hs.below qBl)).mono ?_;rintro e w1 ⟨rfl,b1⟩;have q1:Below w.heap.size w w1:=((Below.refl _ _).alloc (Nat.le_refl _) _).trans (b1.mono qP);obtain ⟨hc1,_hf1⟩:=bcell b1;go_wp2_with fail;refine (i0 _ (hs.l.below q1) (hp.below q1)).mono ?_;rintro e w2 ⟨rfl,b2⟩;have r2:=b1.trans (b2.mono b1.size);obtain ⟨hc2,_hf2⟩:=bcell r2;clear i1 hv hc1 _hf1 i0 hS;go_wp2_with fail;rw [← hT];clear hT;clear hc2 _hf2
 go_loopw [3,16] (fun t i wr=>∃ (k:Nat) (y:ByteArray),k≤d.length∧t=.string y∧i=.int .i64 k∧Hid (linesB T d=linesB y (d.drop k))∧y.size≤2001+301*k∧Below (w.heap.size+1) (w.alloc (.cells #[.int .i64 n,.slice a1 l.length c1,.slice a2 d.length c2,.slice a3 u.length c3] 28)) wr) (fun _ i _=>d.length - (intOf i).toNat)
 case atStart=>exact ⟨0,T,by omega,rfl,rfl,rfl,by omega,by simpa using r2⟩
 case round =>
  obtain ⟨k,y,hk,rfl,rfl,HR,hu,hb⟩:=hrel
  have hz:w.heap.size<wr.heap.size:=by have:=hb.size;simp at this;omega
  have hbw:Below w.heap.size w wr:=((Below.refl w.heap.size w).alloc (Nat.le_refl _) _).trans (hb.mono qO)
  by_cases hlt:k<d.length
  · obtain ⟨b,off,rfl,hbz,e1,e2,e3,e4,e5,e6,e7⟩:=Dds.at (hs.d.below hbw) hlt
    clear hs;have HD:=Lib.hid (zarz y hlt);have i2:=zad6 (nth d k);have z2:=zajw (nth d k);obtain ⟨L,hL⟩:=qM (deedB (nth d k));rw [← hL] at i2 HD z2;simp only [Dd.val] at i2;clear hL
    go_wp2_with (go_at_call 52;refine (i2 _ (hp.below (hbw.alloc qO _))).mono ?_;rintro e w3 ⟨rfl,b3⟩)
    go_roundw
    case rel=>exact ⟨k+1,_,by omega,rfl,by go_num,by show _=_;rw [HR.out,HD.out],by simp only [ByteArray.size_append];have:(⟨#[10]⟩:ByteArray).size=1:=rfl;omega,(hb.alloc qO _).trans (b3.mono (by simp;omega))⟩
    case measure=>simp [intOf];omega
  · go_wp2
    go_ret
    exact ⟨by rw [HB.out,HR.out,List.drop_eq_nil_of_le qO];rfl,hbw⟩
end Go.Proofs.YthfoloefkfadlaaGreatDoor
