/- Walks: the laws' helpers on lists of texts: size, copy, equality, marks, and that marks are held. -/
import Derived.Test.YthfoloefkfadlaaGreatDoorK3
import Derived.Test.YthfoloefkfadlaaGreatDoorMD
import Derived.Test.YthfoloefkfadlaaGreatDoorT1
set_option linter.unusedSimpArgs false
set_option linter.unusedVariables false
set_option maxHeartbeats 1000000
namespace Go.Proofs.YthfoloefkfadlaaGreatDoor
open Go Go.RowKit Go.Sort
theorem zayn (a1 a2:Option Addr) (c1 c2:Nat) (l:List ByteArray) (w:World) (hl:l.length≤1048580) (h1:Strs w a1 l) (h2:Strs w a2 l) :
 Calls Tryz.prog 29 #[.slice a1 l.length c1,.slice a2 l.length c2] w fun e w'=>e=.returned (.bool true)∧Below w.heap.size w w':=by
 have hne:((l.length:Int) != (l.length:Int))=false:=qP
 go_enter Tryz.func29,Tryz.ntmps29
 go_wp2_with fail
 go_loopw [5] (fun i wr=>∃ k:Nat,k≤l.length∧i=.int .i64 k∧Below w.heap.size w wr) (fun i _=>l.length - (intOf i).toNat)
 case atStart=>exact ⟨0,by omega,rfl,Below.refl _ _⟩
 case round =>
  obtain ⟨k,hk,rfl,hb⟩:=hrel;have hz:=hb.size
  by_cases hlt:k<l.length
  · obtain ⟨b,off,rfl,hbw,m0⟩:=Strs.at (h1.below hb) hlt
    obtain ⟨b',off',rfl,hbw',n0⟩:=Strs.at (h2.below hb) hlt;clear h1 h2;have hlt2:(k:Int)<(l.length:Int):=qO;go_upto_region 6 with fail
    go_big_quiet (fail)
    go_wp2_with fail;go_roundw
    case rel=>exact ⟨k+1,by omega,by go_num,Below.trans hb (Below.mono (show Below wr.heap.size wr _ from qBl) hz)⟩
    case measure=>simp [intOf] <;> omega
  · go_wp2_with fail
    go_ret
    exact ⟨rfl,hb⟩
theorem zahf (a1 a2:Option Addr) (c1 c2:Nat) (l:List ByteArray) (w:World) (hl:l.length≤1048580) (h1:Strs w a1 l) (h2:Strs w a2 l) :
 Calls Tryz.prog 11 #[.slice a1 l.length c1,.slice a2 l.length c2] w fun e w'=>e=.returned (.bool true)∧Below w.heap.size w w':=by
 have hne:((l.length:Int) != (l.length:Int))=false:=qP
 go_enter Tryz.func11,Tryz.ntmps11
 go_wp2_with fail
 go_loopw [5] (fun i wr=>∃ k:Nat,k≤l.length∧i=.int .i64 k∧Below w.heap.size w wr) (fun i _=>l.length - (intOf i).toNat)
 case atStart=>exact ⟨0,by omega,rfl,Below.refl _ _⟩
 case round =>
  obtain ⟨k,hk,rfl,hb⟩:=hrel;have hz:=hb.size
  by_cases hlt:k<l.length
  · obtain ⟨b,off,rfl,hbw,m0⟩:=Strs.at (h1.below hb) hlt
    obtain ⟨b',off',rfl,hbw',n0⟩:=Strs.at (h2.below hb) hlt;clear h1 h2;have hlt2:(k:Int)<(l.length:Int):=qO;go_upto_region 6 with fail
    go_big_quiet (fail)
    go_wp2_with fail;go_roundw
    case rel=>exact ⟨k+1,by omega,by go_num,Below.trans hb (Below.mono (show Below wr.heap.size wr _ from qBl) hz)⟩
    case measure=>simp [intOf] <;> omega
  · go_wp2_with fail
    go_ret
    exact ⟨rfl,hb⟩
end Go.Proofs.YthfoloefkfadlaaGreatDoor
