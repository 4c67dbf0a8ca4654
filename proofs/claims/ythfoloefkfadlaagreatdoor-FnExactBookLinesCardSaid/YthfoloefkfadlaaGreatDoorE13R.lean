/-
 FnExactBookLinesCardSaid: for all arguments, wherever they lie in memory, the law returns true and its arguments read as before. No condition.
-/
import Derived.Test.YthfoloefkfadlaaGreatDoorCards
import Derived.Test.YthfoloefkfadlaaGreatDoorC1
import Derived.Test.YthfoloefkfadlaaGreatDoorME
import Derived.Test.YthfoloefkfadlaaGreatDoorE13
set_option linter.unusedSimpArgs false
set_option linter.unusedVariables false
namespace Go.Proofs.YthfoloefkfadlaaGreatDoor.fnExactBookLines
open Go Go.ChangeShapes Go.WideShapes Go.ChangeAt Go.RowKit

theorem reads (os:Os) {H:Type} (enc:TypeId × Value→H):∃ places,DataW.whole enc Tryz.prog ((laidWorldL os).forCall (fun _ _=>0) ⟨#[],#[.agg #[.int .i64 0,.slice none 0 0,.slice none 0 0,.slice none 0 0],.slice none 0 0],[]⟩).memory Tryz.f5.params.toList Rows.fnExactBookLinesSpec.vars false #[Value.agg #[.int .i64 0,.slice none 0 0,.slice none 0 0,.slice none 0 0],Value.slice none 0 0].toList 8=some ([.agg [.agg [.lit (.int .i64 0),.nil],.nil,.nil],.nil],[],places) :=
 ⟨[],by kernel_rfl⟩

set_option maxRecDepth 100000 in
theorem lifted (os:Os) (started:os.Started) (H:Type) (enc:TypeId × Value→H) (F:Stop.Interp) :
 ReturnsInHanded {} Tryz.checked os 5 .any ((OpenSpec.ofChange Rows.fnExactBookLinesSpec).preRow enc Tryz.prog Tryz.f5 Rows.fnExactBookLinesRow.domain false Rows.fnExactBookLinesRow.laid) (((OpenSpec.ofChange Rows.fnExactBookLinesSpec).at F).post enc Tryz.prog Tryz.f5 false true false false):=by
 obtain ⟨places,hx⟩:=reads os enc
 refine returnsInHanded_of_row (C:=Tryz.checked) (s:=OpenSpec.ofChange Rows.fnExactBookLinesSpec) ownP started (by kernel_rfl) Tryz.func5
  (witness_row_at (enc:=enc) (C:=Tryz.checked) false (laidWorldL os) #[.agg #[.int .i64 0,.slice none 0 0,.slice none 0 0,.slice none 0 0],.slice none 0 0] rfl (by kernel_rfl) (by kernel_rfl) (by kernel_rfl)
   (OpenSpec.preRow_of_cond 8 hx (by kernel_rfl) (fun k hk=>by cases hk) (by kernel_rfl) (laidMet_of_run' 8 (by kernel_rfl) (by kernel_rfl)))) ?_
 intro W base args ds gs before hval0 hW _ _ _ hL hsh _
 have hval:∀ (j:Nat) t v,Tryz.f5.params[j]?=some t→args[j]?=some v→Value.okWide Tryz.prog W .any base t v:=hval0
 have hW':=hW
 obtain ⟨p,q,hA0,hV,rfl,hfz,hnd⟩:=hW
 have hA:DataW.TrodAll enc Tryz.prog W 0 (fun _=>true) true Tryz.f5.params.toList args.toList ds p:=hA0
 rw [Tryz.params5] at hA hval
 obtain ⟨v0,vs0,d0,ds0,p0,q0,hargs,rfl,rfl,h0,r0⟩:=trodAll_cons hA
 obtain ⟨v1,vs1,d1,ds1,p1,q1,rfl,rfl,rfl,h1,r1⟩:=trodAll_cons r0
 obtain ⟨rfl,rfl,rfl⟩:=trodAll_nil r1
 obtain rfl:args=#[v0,v1]:=by cases args;simp_all
 obtain ⟨rfl,rfl⟩:=trodVars_none hV
 have lt0:∀ x ∈ p0,x.block<W.heap.size:=by obtain ⟨m,hm⟩:=h0;exact DataW.trod_lt m _ _ _ hm
 have lt1:∀ x ∈ p1,x.block<W.heap.size:=by obtain ⟨m,hm⟩:=h1;exact DataW.trod_lt m _ _ _ hm
 have kk0:=h0
 have kk1:=h1
 obtain ⟨st0,a0x,c0x,l0,a0y,c0y,d0',a0z,c0z,u0,rfl,⟨i0,j0,k0⟩,⟨i0',j0',k0'⟩,⟨i0'',j0'',k0''⟩⟩:=open_Bk (u:=47) (s:=48) (e:=137) Tryz.underlying50 (by kernel_rfl) rfl rfl rfl rfl rfl rfl (by kernel_rfl) svT Tryz.underlying48 (by kernel_rfl) (by kernel_rfl) ddT (hval 0 50 v0 rfl rfl) h0
 obtain ⟨a1,len1,cap1,rfl⟩:=okWide_slice Tryz.underlying29 (hval 1 29 v1 rfl rfl)
 obtain ⟨fuel1,hf1⟩:=h1
 obtain ⟨a1',c1,xs1,e1,hl1,hm1,hs1,hb1⟩:=open_texts Tryz.underlying29 Tryz.underlying9 (by kernel_rfl) hf1
 simp only [Value.cells,List.cons.injEq,Value.slice.injEq,and_true] at e1
 obtain ⟨rfl,rfl,rfl⟩:=e1
 unfold maxLen at hm1 hb1
 clear hA0 hval0
 refine (exactBookLines a0x a0y a0z c0x c0y c0z st0 l0 d0' u0 a1 cap1 xs1 W (by unfold maxLen at j0;omega) (by unfold maxLen at j0';omega) (by unfold maxLen at j0'';omega) ⟨k0,k0',k0''⟩ (by omega) (fun k hk=>by have:=hb1 k hk;omega) hs1 (lby_of_laid hL hsh)).mono fun e W' ⟨he,bel⟩=>?_
 subst he
 exact ⟨_,rfl,_,_,_,[],_,[],hW',trodAll_mk1 (shut_bool Tryz.underlying4 _),(trodAll_cons_mk (Below.trod laidOutP (by kernel_rfl) (of_decide_eq_true (by kernel_rfl)) kk0 bel lt0) (trodAll_cons_mk (Below.trod laidOutP (by kernel_rfl) (of_decide_eq_true (by kernel_rfl)) kk1 bel lt1) trodAll_mk0)),rfl,bel.frame _,fun h=>by cases h⟩

theorem said:Rows.FnExactBookLinesSaid :=
 OpenClaim.holds_of_cond 5 Tryz.f5 rfl rfl rfl rfl rfl rfl rfl ⟨rfl,rfl,rfl,rfl,rfl⟩ rfl rfl rfl rfl rfl (by kernel_rfl) Tryz.func5 (by kernel_rfl)
  (of_decide_eq_true (by kernel_rfl)) (by unfold Func.isWrapper;first|(rw [if_pos (by decide +kernel)];kernel_rfl)|(rw [if_neg (by decide +kernel)];exact ⟨rfl,rfl⟩))
  (fun os started H enc _ F=>by rw [OpenClaim.pre_eq_preRow];exact lifted os started H enc F)

theorem plain (f:FuncId) (fn:Func) (hf:Tryz.pinned.checked.prog.funcNamed "loop.example/cavesurvey/laws.FnExactBookLines" = some f) (hfn:Tryz.pinned.checked.prog.funcs[f]?=some fn) :
 true=Tryz.pinned.checked.prog.looks []∧∀ (j:Nat) t,fn.params[j]?=some t→Tryz.pinned.checked.prog.wantsStandIn t=false:=by
 obtain rfl:f=5:=Option.some.inj ((show Tryz.prog.funcNamed "loop.example/cavesurvey/laws.FnExactBookLines" = some 5 by kernel_rfl).symm.trans hf) |>.symm
 obtain rfl:fn=Tryz.f5:=(Option.some.inj (Tryz.func5.symm.trans hfn)).symm
 refine ⟨by kernel_rfl,fun j t ht=>?_⟩
 rw [Tryz.params5] at ht
 have hm:=Array.mem_of_getElem? ht
 simp only [List.mem_toArray,List.mem_cons,List.not_mem_nil,or_false] at hm
 rcases hm with rfl|rfl
 · exact (show Tryz.prog.wantsStandIn 50=false by kernel_rfl)
 · exact (show Tryz.prog.wantsStandIn 29=false by kernel_rfl)
end Go.Proofs.YthfoloefkfadlaaGreatDoor.fnExactBookLines

namespace Go.Proofs.YthfoloefkfadlaaGreatDoor
open Go
theorem fnExactBookLinesCard:Rows.FnExactBookLinesCardSaid :=
 Claim7.holds_tied_plain_at .later [] _ _ _ _ fnExactBookLines.said (fun _ h=>by cases h) (by kernel_rfl) (fun _ h=>by cases h) fnExactBookLines_row_tie rfl ⟨rfl,rfl⟩ (by kernel_rfl) rfl fnExactBookLines.plain (by kernel_rfl)
end Go.Proofs.YthfoloefkfadlaaGreatDoor
