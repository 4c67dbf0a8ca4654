/- The library's readings in my words: Cut, Split, Atoi; what lies in memory for them. And the plain law of impl.ReadLeg. -/
import Derived.Test.YthfoloefkfadlaaGreatDoorT2
import Derived.Test.YthfoloefkfadlaaGreatDoorShelf2
set_option linter.unusedSimpArgs false
set_option linter.unusedVariables false
namespace Go.Proofs.YthfoloefkfadlaaGreatDoor
open Go Go.RowKit Go.Sort
theorem gSyn:Tryz.prog.globalNamed "strconv.ErrSyntax" = some 1:=by kernel_rfl
theorem gRng:Tryz.prog.globalNamed "strconv.ErrRange" = some 2:=by kernel_rfl
structure Lby (w:World):Prop where
 pow:Pow w
 maxl:∃ m,w.cell? ⟨0,0,none⟩=some (.int .i64 m)
 syn:∃ tp p,w.var? Tryz.prog "strconv.ErrSyntax" = some #[.iface tp p]
 rng:∃ tp p,w.var? Tryz.prog "strconv.ErrRange" = some #[.iface tp p]
theorem zavg {w:World} {n:String} {g:Nat} {cs:Array Value} (hg:Tryz.prog.globalNamed n=some g) (h:w.var? Tryz.prog n=some cs):g<w.heap.size:=by
 unfold World.var? at h;rw [hg] at h;simp only [Option.bind_some] at h
 apply Nat.lt_of_not_le
 intro hle;rw [Array.getElem?_eq_none hle] at h
 cases h
theorem Lby.below {w w':World} (h:Lby w) (hb:Below w.heap.size w w'):Lby w':=by
 obtain ⟨h1,⟨m,h2⟩,⟨t1,p1,h3⟩,t2,p2,h4⟩:=h
 exact ⟨h1.below hb,⟨m,(hb.cell (zalz h2)).trans h2⟩,⟨t1,p1,var?_below hb gSyn (zavg gSyn h3) h3⟩,t2,p2,var?_below hb gRng (zavg gRng h4) h4⟩
theorem zae8 (c:UInt8) {s p r:ByteArray} (w:World) (hs:s.size≤1048576) (h:s.data.toList=p.data.toList ++ c :: r.data.toList) (hp:c ∉ p.data.toList) (hw:Lby w) :
 Calls Tryz.prog 46 #[.string s,.string ⟨#[c]⟩] w fun e w'=>e=.returned (.tuple #[.string p,.string r,.bool true])∧Below w.heap.size w w':=by
 obtain ⟨m,hm⟩:=hw.maxl
 have hc:Lib.cut s.data.toList (⟨#[c]⟩:ByteArray).data.toList=(p.data.toList,r.data.toList,true):=by
  rw [h];exact zal7 _ hp
 refine (Tryz.strings_Cut s ⟨#[c]⟩ m w qO hm).mono fun e w' he=>?_
 obtain ⟨he,n,rfl⟩:=he;rw [hc] at he
 exact ⟨by rw [he],below_drewN (Below.refl _ _) n⟩
theorem zaju (c:UInt8) {s:ByteArray} (w:World) (hs:s.size≤1048576) (h:c ∉ s.data.toList) (hw:Lby w) :
 Calls Tryz.prog 46 #[.string s,.string ⟨#[c]⟩] w fun e w'=>e=.returned (.tuple #[.string s,.string ⟨#[]⟩,.bool false])∧Below w.heap.size w w':=by
 obtain ⟨m,hm⟩:=hw.maxl;have hc:Lib.cut s.data.toList (⟨#[c]⟩:ByteArray).data.toList=(s.data.toList,[],false):=zayl h
 refine (Tryz.strings_Cut s ⟨#[c]⟩ m w qO hm).mono fun e w' he=>?_
 obtain ⟨he,n,rfl⟩:=he;rw [hc] at he
 exact ⟨by rw [he],below_drewN (Below.refl _ _) n⟩
theorem zaqj (c:UInt8) (s:ByteArray):c ∉ s.data.toList∨∃ p r:ByteArray,s.data.toList=p.data.toList ++ c :: r.data.toList∧c ∉ p.data.toList:=by
 by_cases h:c ∈ s.data.toList
 · obtain ⟨p,r,e,hp⟩:=List.eq_append_cons_of_mem h
   exact .inr ⟨toB p,toB r,by simp [e],by simpa using hp⟩
 · exact .inl h
theorem zaeg {c:UInt8} {s p r:ByteArray} (h:s.data.toList=p.data.toList ++ c :: r.data.toList):p.size+1+r.size=s.size:=by
 have:=congrArg List.length h;simp only [List.length_append,List.length_cons] at this;have e1:s.data.toList.length=s.size:=rfl;have e2:p.data.toList.length=p.size:=rfl;have e3:r.data.toList.length=r.size:=rfl
 omega
theorem zam9 (c:UInt8) (s:ByteArray) (w:World) (hs:s.size≤1048576) (hw:Lby w) :
 Calls Tryz.prog 137 #[.string s,.string ⟨#[c]⟩] w fun e w'=>e=.returned (.slice (some ⟨w.heap.size,0,none⟩) (cutB c s).length (cutB c s).length)∧w.alloc (.cells ((cutB c s).map Value.string).toArray 9)=w':=by
 obtain ⟨m,hm⟩:=hw.maxl
 refine (Tryz.strings_Split s ⟨#[c]⟩ m w qO hm (Nat.le_refl 1)).mono fun e w' he=>?_
 obtain ⟨he,hw'⟩:=he
 have hl:(cutB c s).length=Lib.countB s ⟨#[c]⟩+1:=by rw [← zagk,Lib.splitB_all ⟨#[c]⟩ (Nat.le_refl 1) 0 _ s rfl]
 rw [zagk] at hw'
 exact ⟨by rw [he,hl],hw'.symm⟩
theorem zae9 {s:ByteArray} {v:Int} (h:atoF s=some v) (w:World) (hs:s.size≤1048576) :
 Calls Tryz.prog 92 #[.string s] w fun e w'=>e=.returned (.tuple #[.int .i64 v,.nilIface])∧Below w.heap.size w w':=by
 have h2:Lib.atoiAll s.data.toList=.ok v:=by
  unfold atoF at h
  split at h
  · rename_i e;cases h;exact e
  · cases h
 refine (Tryz.strconv_Atoi_ok s qO v h2 w).mono fun e w' he=>?_
 obtain ⟨he,rfl|⟨t,rfl⟩⟩:=he
 · exact ⟨he,Below.refl _ _⟩
 · exact ⟨he,Lib.bytesWorld_below _ _ _⟩
theorem zagm {s:ByteArray} (h:atoF s=none) (w:World) (hs:s.size≤1048576) (hw:Lby w) :
 Calls Tryz.prog 92 #[.string s] w fun e w'=>∃ v t p,e=.returned (.tuple #[.int .i64 v,.iface t p])∧Below w.heap.size w w':=by
 obtain ⟨t1,p1,h3⟩:=hw.syn;obtain ⟨t2,p2,h4⟩:=hw.rng
 rcases h2:Lib.atoiAll s.data.toList with v | _ | _
 · unfold atoF at h;rw [h2] at h;cases h
 · refine (Tryz.strconv_Atoi_syntax_var s qO h2 t1 p1 w h3).mono fun e w' he=>?_
   obtain ⟨N,he,_,_,hb⟩:=he
   exact ⟨_,_,_,he,hb⟩
 · refine (Tryz.strconv_Atoi_range_var s qO h2 t2 p2 w h4).mono fun e w' he=>?_
   obtain ⟨N,he,_,_,hb⟩:=he
   exact ⟨_,_,_,he,hb⟩
theorem zana {c:UInt8} {p r p' r':List UInt8} (h:p ++ c :: r=p' ++ c :: r') (hp:c ∉ p) (hp':c ∉ p'):p=p'∧r=r':=by
 have h1:=zal7 r hp;rw [h,zal7 r' hp'] at h1
 injection h1 with e1 e2
 injection e2 with e2 e3
 exact ⟨e1.symm,e2.symm⟩
theorem zal9 {l:List UInt8} {s:ByteArray} (h:s.data.toList=l):s=toB l:=by rw [← h,zacd]
theorem zah9 {g:Lg} (h:legOk 6 g=true) {p r:ByteArray} (e:(legB g).data.toList=p.data.toList ++ 62 :: r.data.toList) (hp:(62:UInt8) ∉ p.data.toList) :
 p=itoaB g.frm∧(62:UInt8) ∈ (legB g).data.toList∧(58:UInt8) ∈ r.data.toList∧∀ t u:ByteArray,r.data.toList=t.data.toList ++ 58 :: u.data.toList→(58:UInt8) ∉ t.data.toList→t=itoaB g.to∧cutB 44 u=[itoaB g.east,itoaB g.north,itoaB g.up]:=by
 obtain ⟨hr1,hr2,hr3,hr4,hr5⟩:=zaaq qO h
 have n62:∀ {n:Int},-99≤n∧n≤99→(62:UInt8) ∉ Lib.itoa n:=fun h=>zact h (by decide) (by decide)
 have n58:∀ {n:Int},-99≤n∧n≤99→(58:UInt8) ∉ Lib.itoa n:=fun h=>zact h (by decide) (by decide)
 have n44:∀ {n:Int},-99≤n∧n≤99→(44:UInt8) ∉ Lib.itoa n:=fun h=>zact h (by decide) (by decide)
 have e0:=zaep h
 have e1:(legB g).data.toList=Lib.itoa g.frm ++ 62 :: (Lib.itoa g.to ++ 58 :: (Lib.itoa g.east ++ 44 :: (Lib.itoa g.north ++ 44 :: Lib.itoa g.up))):=by rw [e0];simp
 have hin:(62:UInt8) ∈ (legB g).data.toList:=by rw [e1];simp
 rw [e1] at e;obtain ⟨a1,a2⟩:=zana e (n62 qO) hp
 refine ⟨zal9 a1.symm,hin,by rw [← a2];simp,fun t u et ht=>?_⟩
 rw [← a2] at et;obtain ⟨b1,b2⟩:=zana et (n58 qO) ht
 refine ⟨zal9 b1.symm,?_⟩
 unfold cutB;rw [← b2,zaaz _ (n44 hr3),zaaz _ (n44 hr4),zabb (n44 hr5)]
 rfl
theorem zavh {s:ByteArray} (h:(62:UInt8) ∉ s.data.toList):rdLegD s=(noLeg,false) :=
 zace (zag6 fun g hg e=>by
  subst e;have e1:=zaep hg
  exact h (by rw [e1];simp))
theorem zavi {s p r:ByteArray} (e:s.data.toList=p.data.toList ++ 62 :: r.data.toList) (hp:(62:UInt8) ∉ p.data.toList) (h:(58:UInt8) ∉ r.data.toList):rdLegD s=(noLeg,false) :=
 zace (zag6 fun g hg e1=>by
  subst e1
  exact h (zah9 hg e hp).2.2.1)
theorem zaxf {s p r t u:ByteArray} (e:s.data.toList=p.data.toList ++ 62 :: r.data.toList) (hp:(62:UInt8) ∉ p.data.toList) (e2:r.data.toList=t.data.toList ++ 58 :: u.data.toList) (ht:(58:UInt8) ∉ t.data.toList) (h:(cutB 44 u).length≠3):rdLegD s=(noLeg,false) :=
 zace (zag6 fun g hg e1=>by
  subst e1;have:=((zah9 hg e hp).2.2.2 t u e2 ht).2;rw [this] at h
  exact h rfl)
theorem zanb {s p r t u x y z:ByteArray} (e:s.data.toList=p.data.toList ++ 62 :: r.data.toList) (hp:(62:UInt8) ∉ p.data.toList) (e2:r.data.toList=t.data.toList ++ 58 :: u.data.toList) (ht:(58:UInt8) ∉ t.data.toList) (h:cutB 44 u=[x,y,z])
 (g:Lg) (hg:legOk 6 g=true) (e1:legB g=s):∀ j,j<5→atoF (nth [p,t,x,y,z] j)=some (nth [g.frm,g.to,g.east,g.north,g.up] j):=by
 subst e1;obtain ⟨hr1,hr2,hr3,hr4,hr5⟩:=zaaq qO hg;obtain ⟨k1,_,_,k2⟩:=zah9 hg e hp;obtain ⟨k3,k4⟩:=k2 t u e2 ht;rw [h] at k4
 injection k4 with k4 k5
 injection k5 with k5 k6
 injection k6 with k6 k7
 subst k1 k3 k4 k5 k6;intro j hj;have:j=0∨j=1∨j=2∨j=3∨j=4:=qO
 rcases this with rfl|rfl|rfl|rfl|rfl
 · exact zacj qO
 · exact zacj qO
 · exact zacj hr3
 · exact zacj hr4
 · exact zacj hr5
theorem zaxg {s p r t u x y z:ByteArray} (e:s.data.toList=p.data.toList ++ 62 :: r.data.toList) (hp:(62:UInt8) ∉ p.data.toList) (e2:r.data.toList=t.data.toList ++ 58 :: u.data.toList) (ht:(58:UInt8) ∉ t.data.toList) (h:cutB 44 u=[x,y,z])
 {j:Nat} (hj:j<5) (hn:atoF (nth [p,t,x,y,z] j)=none):rdLegD s=(noLeg,false) :=
 zace (zag6 fun g hg e1=>by
  have:=zanb e hp e2 ht h g hg e1 j hj;rw [hn] at this
  cases this)
theorem zavj {s p r t u x y z:ByteArray} (e:s.data.toList=p.data.toList ++ 62 :: r.data.toList) (hp:(62:UInt8) ∉ p.data.toList) (e2:r.data.toList=t.data.toList ++ 58 :: u.data.toList) (ht:(58:UInt8) ∉ t.data.toList) (h:cutB 44 u=[x,y,z])
 (f:Nat→Int) (hf:∀ j,j<5→atoF (nth [p,t,x,y,z] j)=some (f j)):rdLegD s=if legB ⟨f 0,f 1,f 2,f 3,f 4⟩=s then (⟨f 0,f 1,f 2,f 3,f 4⟩,true) else (noLeg,false):=by
 have hs0:s.size≠0:=by have:=zaeg e;omega
 have hc:=zato (s:=s) (g:=⟨f 0,f 1,f 2,f 3,f 4⟩) fun g hg e1=>by
  have h5:=zanb e hp e2 ht h g hg e1
  have k:∀ j,j<5→nth [g.frm,g.to,g.east,g.north,g.up] j=f j:=fun j hj=>by
   have:=h5 j hj;rw [hf j hj] at this
   exact (Option.some.inj this).symm
  obtain ⟨a,b,c,d,i⟩:=g;have k0:=k 0 qO;have k1:=k 1 qO;have k2:=k 2 qO;have k3:=k 3 qO;have k4:=k 4 qO;simp only [nth,List.getD_eq_getElem?_getD] at k0 k1 k2 k3 k4
  simp at k0 k1 k2 k3 k4
  rw [k0,k1,k2,k3,k4]
 by_cases hl:legB ⟨f 0,f 1,f 2,f 3,f 4⟩=s
 · rw [if_pos ⟨hl,hs0⟩] at hc
   rw [if_pos hl]
   exact zadh hc
 · rw [if_neg (fun h=>hl h.1)] at hc
   rw [if_neg hl]
   exact zace hc
set_option maxHeartbeats 1000000
set_option maxRecDepth 100000
theorem zaqc (s:ByteArray) (w:World) (hs:s.size≤1048576) (h:(62:UInt8) ∉ s.data.toList) (hw:Lby w):Calls Tryz.prog 93 #[.string s] w (LgOut (noLeg,false) w):=by
 simp only [noLeg]
 have i1:=fun w hw=>zaju 62 (s:=s) w hs h hw
 clear h
 go_enter Tryz.func93,Tryz.ntmps93
 go_wp2_with fail;obtain ⟨X,hX⟩:=qN (w.heap.size);obtain ⟨W0,hW0⟩:=qM (w.alloc (.cells #[.int .i64 0,.int .i64 0,.int .i64 0,.int .i64 0,.int .i64 0] 75))
 have F0:At W0 X [.int .i64 0,.int .i64 0,.int .i64 0,.int .i64 0,.int .i64 0]:=by rw [hW0];exact At.new _ _ _ hX.symm rfl
 have b0:Below w.heap.size w W0:=by rw [hW0];exact qBl
 rw [hX,← hW0];clear hW0;refine (i1 _ (hw.below b0)).mono ?_;rintro e w1 ⟨rfl,b1⟩;replace F0:=F0.below b1;replace b0:=b0.trans (b1.mono b0.size);clear b1;obtain ⟨r,r0,r1,r2,r3,r4,rf⟩:=F0.facts5;clear F0;go_wp2_with fail;refine bodyPost_ret (v:=.tuple #[.agg #[.int .i64 0,.int .i64 0,.int .i64 0,.int .i64 0,.int .i64 0],.bool false]) (by simp [results,Tryz.results93,go_sem,r0,r1,r2,r3,r4]) rfl ⟨rfl,?_⟩
 exact zaa1 b0 qO _ _ _ _ _
theorem zaqd (s p q:ByteArray) (w:World) (hs:s.size≤1048576) (e1:s.data.toList=p.data.toList ++ 62 :: q.data.toList) (hp:(62:UInt8) ∉ p.data.toList) (h:(58:UInt8) ∉ q.data.toList) (hw:Lby w):Calls Tryz.prog 93 #[.string s] w (LgOut (noLeg,false) w):=by
 simp only [noLeg];have hq:=zaeg e1
 have i1:=fun w hw=>zae8 62 w hs e1 hp hw
 have i2:=fun w hw=>zaju 58 (s:=q) w qO h hw
 clear h e1 hp hq
 go_enter Tryz.func93,Tryz.ntmps93
 go_wp2_with fail;obtain ⟨X,hX⟩:=qN (w.heap.size);obtain ⟨W0,hW0⟩:=qM (w.alloc (.cells #[.int .i64 0,.int .i64 0,.int .i64 0,.int .i64 0,.int .i64 0] 75))
 have F0:At W0 X [.int .i64 0,.int .i64 0,.int .i64 0,.int .i64 0,.int .i64 0]:=by rw [hW0];exact At.new _ _ _ hX.symm rfl
 have b0:Below w.heap.size w W0:=by rw [hW0];exact qBl
 rw [hX,← hW0];clear hW0;refine (i1 _ (hw.below b0)).mono ?_;rintro e w1 ⟨rfl,b1⟩;replace F0:=F0.below b1;replace b0:=b0.trans (b1.mono b0.size);clear b1;go_wp2_with fail;refine (i2 _ (hw.below b0)).mono ?_;rintro e w2 ⟨rfl,b2⟩;replace F0:=F0.below b2;replace b0:=b0.trans (b2.mono b0.size);clear b2;obtain ⟨r,r0,r1,r2,r3,r4,rf⟩:=F0.facts5;clear F0;go_wp2_with fail;refine bodyPost_ret (v:=.tuple #[.agg #[.int .i64 0,.int .i64 0,.int .i64 0,.int .i64 0,.int .i64 0],.bool false]) (by simp [results,Tryz.results93,go_sem,r0,r1,r2,r3,r4]) rfl ⟨rfl,?_⟩
 exact zaa1 b0 qO _ _ _ _ _
theorem zarr (s p q t u:ByteArray) (w:World) (hs:s.size≤1048576) (e1:s.data.toList=p.data.toList ++ 62 :: q.data.toList) (hp:(62:UInt8) ∉ p.data.toList) (e2:q.data.toList=t.data.toList ++ 58 :: u.data.toList) (ht:(58:UInt8) ∉ t.data.toList) (h:(cutB 44 u).length≠3) (hw:Lby w):Calls Tryz.prog 93 #[.string s] w (LgOut (noLeg,false) w):=by
 simp only [noLeg];have hq:=zaeg e1;have hu:=zaeg e2
 have i1:=fun w hw=>zae8 62 w hs e1 hp hw
 have i2:=fun w hw=>zae8 58 w qO e2 ht hw
 have i3:=fun w hw=>zam9 44 u w qO hw
 have hn:((cutB 44 u).length:Int)≠3:=qO;obtain ⟨N,hN⟩:=qM ((cutB 44 u).length);rw [← hN] at hn h i3;clear hN e1 e2 hp ht hq hu
 go_enter Tryz.func93,Tryz.ntmps93
 go_wp2_with fail;obtain ⟨X,hX⟩:=qN (w.heap.size);obtain ⟨W0,hW0⟩:=qM (w.alloc (.cells #[.int .i64 0,.int .i64 0,.int .i64 0,.int .i64 0,.int .i64 0] 75))
 have F0:At W0 X [.int .i64 0,.int .i64 0,.int .i64 0,.int .i64 0,.int .i64 0]:=by rw [hW0];exact At.new _ _ _ hX.symm rfl
 have b0:Below w.heap.size w W0:=by rw [hW0];exact qBl
 rw [hX,← hW0];clear hW0;refine (i1 _ (hw.below b0)).mono ?_;rintro e w1 ⟨rfl,b1⟩;replace F0:=F0.below b1;replace b0:=b0.trans (b1.mono b0.size);clear b1;go_wp2_with fail;refine (i2 _ (hw.below b0)).mono ?_;rintro e w2 ⟨rfl,b2⟩;replace F0:=F0.below b2;replace b0:=b0.trans (b2.mono b0.size);clear b2;go_wp2_with fail;refine (i3 _ (hw.below b0)).mono ?_;rintro e w3 ⟨rfl,b3⟩;replace F0:=F0.alloc (.cells ((cutB 44 u).map Value.string).toArray 9);replace b0:=b0.alloc b0.size (.cells ((cutB 44 u).map Value.string).toArray 9);rw [b3] at F0 b0;clear b3;obtain ⟨r,r0,r1,r2,r3,r4,rf⟩:=F0.facts5;clear F0;go_wp2_with fail;refine bodyPost_ret (v:=.tuple #[.agg #[.int .i64 0,.int .i64 0,.int .i64 0,.int .i64 0,.int .i64 0],.bool false]) (by simp [results,Tryz.results93,go_sem,r0,r1,r2,r3,r4]) rfl ⟨rfl,?_⟩
 exact zaa1 b0 qO _ _ _ _ _
set_option maxHeartbeats 4000000
structure Arr5 (w:World) (A:Nat) (f:Nat→Int):Prop where
 lt:A<w.heap.size
 c:∀ j,j<5→w.cell? ⟨A,j,none⟩=some (.int .i64 (f j))
 f:∀ j,w.frozen? ⟨A,j,none⟩=false
theorem Arr5.below {w w':World} {A:Nat} {f:Nat→Int} (h:Arr5 w A f) (hb:Below w.heap.size w w'):Arr5 w' A f :=
 ⟨Nat.lt_of_lt_of_le h.lt hb.size,fun j hj=>(hb.cell (p:=⟨A,j,none⟩) h.lt).trans (h.c j hj),fun j=>(hb.frozen (p:=⟨A,j,none⟩) h.lt).trans (h.f j)⟩
theorem Arr5.put {w:World} {A:Nat} {f:Nat→Int} (h:Arr5 w A f) (k:Nat) (hk:k<5) (v:Int):Arr5 (w.setCell ⟨A,k,none⟩ (.int .i64 v)) A (fun j=>if j=k then v else f j):=by
 refine ⟨by simpa [World.setCell] using h.lt,fun j hj=>?_,fun j=>by rw [World.frozen?_setCell];exact h.f j⟩
 by_cases e:j=k
 · subst e;rw [if_pos rfl];exact World.cell?_setCell_same _ _ _ (h.c j hk)
 · rw [if_neg e,World.cell?_setCell_other _ _ _ _ (by intro e';injection e' with _ e2;exact e e2.symm)];exact h.c j hj
def Txt5 (w:World) (T:Nat) (ts:List ByteArray):Prop:=T<w.heap.size∧∀ j,j<5→w.cell? ⟨T,j,none⟩=some (.string (nth ts j))
theorem Txt5.below {w w':World} {T:Nat} {ts:List ByteArray} (h:Txt5 w T ts) (hb:Below w.heap.size w w'):Txt5 w' T ts :=
 ⟨Nat.lt_of_lt_of_le h.1 hb.size,fun j hj=>(hb.cell (p:=⟨T,j,none⟩) h.1).trans (h.2 j hj)⟩
theorem Txt5.set {w:World} {T:Nat} {ts:List ByteArray} (h:Txt5 w T ts) {a:Addr} (ha:a.block≠T) (v:Value):Txt5 (w.setCell a v) T ts :=
 ⟨by simpa [World.setCell] using h.1,fun j hj=>by rw [World.cell?_setCell_other _ _ _ _ (by intro e;exact ha (by rw [e]))];exact h.2 j hj⟩
theorem zars (s p q t u x y z:ByteArray) (w:World) (hs:s.size≤1048576) (e1:s.data.toList=p.data.toList ++ 62 :: q.data.toList) (hp:(62:UInt8) ∉ p.data.toList) (e2:q.data.toList=t.data.toList ++ 58 :: u.data.toList) (ht:(58:UInt8) ∉ t.data.toList) (h:cutB 44 u=[x,y,z]) (hw:Lby w):Calls Tryz.prog 93 #[.string s] w (LgOut (rdLegD s) w):=by
 have hq:=zaeg e1;have hu:=zaeg e2;have hx:x.size≤u.size:=zadt (sep:=44) (s:=u) (by rw [h];simp);have hy:y.size≤u.size:=zadt (sep:=44) (s:=u) (by rw [h];simp);have hz:z.size≤u.size:=zadt (sep:=44) (s:=u) (by rw [h];simp)
 have i1:=fun w hw=>zae8 62 w hs e1 hp hw
 have i2:=fun w hw=>zae8 58 w qO e2 ht hw
 have i3:=fun w hw=>zam9 44 u w qO hw
 have HBad:=Lib.hid (fun (j:Nat) (hj:j<5) (hn:atoF (nth [p,t,x,y,z] j)=none)=>zaxg e1 hp e2 ht h hj hn)
 have HCand:=Lib.hid (fun (f:Nat→Int) (hf:∀ j,j<5→atoF (nth [p,t,x,y,z] j)=some (f j))=>zavj e1 hp e2 ht h f hf)
 have hts:∀ j,j<5→(nth [p,t,x,y,z] j).size≤1048576:=fun j hj=>by
  have:j=0∨j=1∨j=2∨j=3∨j=4:=qO
  rcases this with rfl|rfl|rfl|rfl|rfl
  · show p.size≤_;omega
  · show t.size≤_;omega
  · show x.size≤_;omega
  · show y.size≤_;omega
  · show z.size≤_;omega
 have HS:=Lib.hid hts;rw [h] at i3;simp only [List.length_cons,List.length_nil,Nat.zero_add,List.map_cons,List.map_nil] at i3;clear h e1 e2 hp ht hq hu hx hy hz hts;obtain ⟨ts,hT⟩:=qM ([p,t,x,y,z]);rw [← hT] at HBad HCand HS;have HT:=Lib.hid hT;clear hT
 go_enter Tryz.func93,Tryz.ntmps93
 go_wp2_with fail;obtain ⟨X,hX⟩:=qN (w.heap.size);obtain ⟨W0,hW0⟩:=qM (w.alloc (.cells #[.int .i64 0,.int .i64 0,.int .i64 0,.int .i64 0,.int .i64 0] 75))
 have F0:At W0 X [.int .i64 0,.int .i64 0,.int .i64 0,.int .i64 0,.int .i64 0]:=by rw [hW0];exact At.new _ _ _ hX.symm rfl
 have b0:Below w.heap.size w W0:=by rw [hW0];exact qBl
 rw [hX,← hW0];clear hW0;refine (i1 _ (hw.below b0)).mono ?_;rintro e w1 ⟨rfl,b1⟩;replace F0:=F0.below b1;replace b0:=b0.trans (b1.mono b0.size);clear b1;go_wp2_with fail;refine (i2 _ (hw.below b0)).mono ?_;rintro e w2 ⟨rfl,b2⟩;replace F0:=F0.below b2;replace b0:=b0.trans (b2.mono b0.size);clear b2;go_wp2_with fail;refine (i3 _ (hw.below b0)).mono ?_;rintro e w3 ⟨rfl,b3⟩;replace F0:=F0.alloc (.cells #[.string x,.string y,.string z] 9);replace b0:=b0.alloc b0.size (.cells #[.string x,.string y,.string z] 9);obtain ⟨P,hP⟩:=qN (w2.heap.size);have G0:At (w2.alloc (.cells #[.string x,.string y,.string z] 9)) P [.string x,.string y,.string z]:=At.new _ _ _ hP.symm rfl;have b3':w2.alloc (.cells #[.string x,.string y,.string z] 9)=w3:=b3;rw [b3'] at F0 b0 G0;rw [hP];clear b3 b3' hP i1 i2 i3;have g0:=G0.c 0 _ rfl;have g1:=G0.c 1 _ rfl;have g2:=G0.c 2 _ rfl;have gl:=G0.lt;clear G0;go_upto_region 11 with fail;obtain ⟨A,hA⟩:=qN (w3.heap.size);obtain ⟨V,hV⟩:=qM (w3.alloc (.cells #[.int .i64 0,.int .i64 0,.int .i64 0,.int .i64 0,.int .i64 0] 154))
 have A0:Arr5 V A (fun _=>0):=by
  have h5:At V A [.int .i64 0,.int .i64 0,.int .i64 0,.int .i64 0,.int .i64 0]:=by rw [hV];exact At.new _ _ _ hA.symm rfl
  refine ⟨h5.lt,fun j hj=>h5.c j _ ?_,h5.f⟩
  have:j=0∨j=1∨j=2∨j=3∨j=4:=qO
  rcases this with rfl|rfl|rfl|rfl|rfl <;> rfl
 have bV:Below w3.heap.size w3 V:=by rw [hV];exact qBl
 rw [hA,← hV]
 have hne:A≠X:=by have:=F0.lt;omega
 have hwA:w.heap.size≤A:=by have:=b0.size;omega
 replace F0:=F0.below bV;replace b0:=b0.trans (bV.mono b0.size);replace g0:=(bV.cell (p:=⟨P,0,none⟩) gl).trans g0;replace g1:=(bV.cell (p:=⟨P,1,none⟩) gl).trans g1;replace g2:=(bV.cell (p:=⟨P,2,none⟩) gl).trans g2;replace gl:=Nat.lt_of_lt_of_le gl bV.size;clear bV hV hA
 have mixed:Tryz.prog.follows Departure.mixedOrders=true:=by kernel_rfl
 go_cut [51,52,53] (fun a n i wx=>n=.int .i64 5∧i=.int .i64 0∧∃ T,a=.slice (some ⟨T,0,none⟩) 5 5∧V.heap.size≤T∧Txt5 wx T ts∧Below V.heap.size V wx)
 case first =>
  go_region_o
  all_goals (go_wp2_with fail;go_meet)
  all_goals
   refine ⟨rfl,rfl,_,rfl,Nat.le_refl _,⟨by simp [World.drew],fun j hj=>?_⟩,qBl⟩
   rw [HT.out];refine (At.new (X:=V.heap.size) V #[.string p,.string t,.string x,.string y,.string z] 9 rfl rfl).c j _ ?_;have:j=0∨j=1∨j=2∨j=3∨j=4:=qO
   rcases this with rfl|rfl|rfl|rfl|rfl <;> rfl
 case rest =>
  obtain ⟨rfl,rfl,T,rfl,hT1,T0,bT⟩:=hcut
  have hTX:T≠X:=by have:=F0.lt;omega
  have hTA:A≠T:=by have:=A0.lt;omega
  replace F0:=F0.below bT;replace A0:=A0.below bT;replace b0:=b0.trans (bT.mono b0.size);clear g0 g1 g2 gl bT hT1 HT;go_wp2_with fail
  go_loopw [53] (fun i wr=>∃ (k:Nat) (f:Nat→Int),k≤5∧i=.int .i64 k∧Hid (∀ j,j<k→atoF (nth ts j)=some (f j))∧At wr X [.int .i64 0,.int .i64 0,.int .i64 0,.int .i64 0,.int .i64 0]∧Arr5 wr A f∧Txt5 wr T ts∧Below w.heap.size w wr) (fun i _=>5 - (intOf i).toNat)
  case atStart=>exact ⟨0,fun _=>0,by omega,rfl,Lib.hid (fun j hj=>absurd hj (Nat.not_lt_zero j)),F0,A0,T0,b0⟩
  case round =>
   obtain ⟨k,f,hk,rfl,HF,F,A1,T1,hb⟩:=hrel;clear F0 A0 T0 b0
   by_cases hlt:k<5
   · have hsz:=HS.out k hlt
     have c0:=T1.2 k hlt
     cases ha:atoF (nth ts k) with
     | none =>
       have i1:=fun w hw=>zagm ha w hsz hw
       have HE:=Lib.hid (HBad.out k hlt ha);clear ha;obtain ⟨S,hS⟩:=qN (nth ts k);rw [hS] at c0 i1;clear hS;go_wp2_with fail;refine (i1 _ (hw.below hb)).mono ?_;rintro e w5 ⟨v,te,pe,rfl,b5⟩;replace F:=F.below b5;replace hb:=hb.trans (b5.mono hb.size);clear b5 c0 i1;obtain ⟨r,r0,r1,r2,r3,r4,rf⟩:=F.facts5;clear F A1 T1;go_wp2_with fail;refine bodyPost_ret (v:=.tuple #[.agg #[.int .i64 0,.int .i64 0,.int .i64 0,.int .i64 0,.int .i64 0],.bool false]) (by simp [results,Tryz.results93,go_sem,r0,r1,r2,r3,r4]) rfl ⟨by rw [HE.out];rfl,?_⟩
       exact zaa1 hb qO _ _ _ _ _
     | some v =>
       have i1:=fun w=>zae9 ha w hsz
       have HN:Hid (∀ j,j<k+1→atoF (nth ts j)=some ((fun j=>if j=k then v else f j) j)):=Lib.hid (fun j hj=>by
        by_cases e:j=k
        · subst e;simp only [if_pos];exact ha
        · simp only [if_neg e];exact HF.out j qO)
       clear ha;obtain ⟨S,hS⟩:=qN (nth ts k);rw [hS] at c0 i1;clear hS;go_wp2_with fail;refine (i1 _).mono ?_;rintro e w5 ⟨rfl,b5⟩;replace F:=F.below b5;replace A1:=A1.below b5;replace T1:=T1.below b5;replace hb:=hb.trans (b5.mono hb.size);clear b5 c0 i1;have a1:=A1.c k hlt;have a2:=A1.f k;go_wp2_with fail;go_roundw
       case rel=>exact ⟨k+1,_,by omega,by go_num,HN,F.setOther (by show X≠A;omega) _,A1.put k hlt v,T1.set (by show A≠T;exact hTA) _,hb.setCell (by show w.heap.size≤A;exact hwA) _⟩
       case measure=>simp [intOf];omega
   · obtain rfl:k=5:=by omega
     have HE:=Lib.hid (HCand.out f HF.out);have a0:=A1.c 0 qO;have a1:=A1.c 1 qO;have a2:=A1.c 2 qO;have a3:=A1.c 3 qO;have a4:=A1.c 4 qO;have al:=A1.lt;generalize f 0=n1 at *;generalize f 1=n2 at *;generalize f 2=n3 at *;generalize f 3=n4 at *;generalize f 4=n5 at *;have it:=zadi ⟨n1,n2,n3,n4,n5⟩;obtain ⟨L,hL⟩:=qM (legB ⟨n1,n2,n3,n4,n5⟩);rw [← hL] at it HE;simp only [Lg.val] at it;clear hL HF HCand HBad HS A1 T1;go_wp2_with fail;obtain ⟨Y,hY⟩:=qN (wr.heap.size);obtain ⟨V2,hV2⟩:=qM (wr.alloc (.cells #[.int .i64 n1,.int .i64 n2,.int .i64 n3,.int .i64 n4,.int .i64 n5] 75))
     have AY:At V2 Y [.int .i64 n1,.int .i64 n2,.int .i64 n3,.int .i64 n4,.int .i64 n5]:=by rw [hV2];exact At.new _ _ _ hY.symm rfl
     have bV:Below wr.heap.size wr V2:=by rw [hV2];exact qBl
     rw [hY,← hV2];replace F:=F.below bV;replace hb:=hb.trans (bV.mono hb.size);clear bV hV2 hY a0 a1 a2 a3 a4 al;refine (it _ (hw.below hb).pow).mono ?_;rintro e w6 ⟨rfl,b6⟩;replace F:=F.below b6;replace AY:=AY.below b6;replace hb:=hb.trans (b6.mono hb.size);clear b6 it;obtain ⟨t5,t0,t1,t2,t3,t4,tf⟩:=AY.facts5;obtain ⟨r,r0,r1,r2,r3,r4,rf⟩:=F.facts5;have hne:=zaca L s;clear AY F
     by_cases hLs:L=s
     · subst hLs
       simp only [decide_true,Bool.not_true] at hne;rw [if_pos rfl] at HE;have HE2:=HE;clear HE;go_wp2_with fail;refine bodyPost_ret (v:=.tuple #[.agg #[.int .i64 n1,.int .i64 n2,.int .i64 n3,.int .i64 n4,.int .i64 n5],.bool true]) (by simp [results,Tryz.results93,go_sem,r0,r1,r2,r3,r4]) rfl ⟨by rw [HE2.out],?_⟩
       exact zaa1 hb qO _ _ _ _ _
     · rw [decide_eq_false hLs,Bool.not_false] at hne
       rw [if_neg hLs] at HE
       have hne2:¬ L.toList=s.toList:=by rw [Lib.toList_data,Lib.toList_data];exact fun e=>hLs (ByteArray.ext (Array.ext' e))
       have hne3:(L.toList == s.toList)=false:=by simpa using hne2
       clear hLs;go_wp2_with fail;refine bodyPost_ret (v:=.tuple #[.agg #[.int .i64 0,.int .i64 0,.int .i64 0,.int .i64 0,.int .i64 0],.bool false]) (by simp [results,Tryz.results93,go_sem,r0,r1,r2,r3,r4]) rfl ⟨by rw [HE.out];rfl,?_⟩
       exact zaa1 hb qO _ _ _ _ _
theorem zai5 (s:ByteArray) (w:World) (hs:s.size≤1048576) (hw:Lby w):Calls Tryz.prog 93 #[.string s] w (LgOut (rdLegD s) w):=by
 rcases zaqj 62 s with h|⟨p,q,e1,hp⟩
 · rw [zavh h];exact zaqc s w hs h hw
 rcases zaqj 58 q with h|⟨t,u,e2,ht⟩
 · rw [zavi e1 hp h];exact zaqd s p q w hs e1 hp h hw
 by_cases h3:(cutB 44 u).length=3
 · obtain ⟨x,y,z,h⟩:=zak8 h3
   exact zars s p q t u x y z w hs e1 hp e2 ht h hw
 · rw [zaxf e1 hp e2 ht h3];exact zarr s p q t u w hs e1 hp e2 ht h3 hw
theorem zam3 (a b:ByteArray):(a.toList == b.toList)=decide (a=b):=by
 rw [Lib.toList_data,Lib.toList_data]
 by_cases h:a=b
 · subst h;simp
 · have h2:¬ a.data=b.data:=fun e=>h (ByteArray.ext e)
   simp [h,h2]
theorem zaco (a b:ByteArray):(a.toList=b.toList)=(a=b):=by
 rw [Lib.toList_data,Lib.toList_data]
 exact propext ⟨fun e=>ByteArray.ext (Array.ext' e),fun e=>by rw [e]⟩
def kindU (t:ByteArray):Nat→Int
 | 0=>-1
 | k+1=>if t=nameB (k:Int) then (k:Int) else kindU t k
theorem zam4 (t:ByteArray):kindU t 6=kindF t:=rfl
theorem zagb (t:ByteArray):∀ k,-1≤kindU t k∧kindU t k≤k
 | 0=>by simp [kindU]
 | k+1=>by
   have:=zagb t k;unfold kindU
   split <;> omega
theorem zau6 {s:ByteArray} (h:deedB (candD (cutB 32 s))=s) (h0:s.size≠0):rdDdD s=(candD (cutB 32 s),true):=by
 unfold rdDdD rdDd;rw [if_pos ⟨h,h0⟩]
theorem zam5 {s:ByteArray} (h:¬ (deedB (candD (cutB 32 s))=s∧s.size≠0)):rdDdD s=(noDd,false):=by
 unfold rdDdD rdDd;rw [if_neg h]
theorem zatk {s:ByteArray} {d:Dd} (h:rdDd s=some d):rdDdD s=(d,true):=by unfold rdDdD;rw [h]
theorem zag4 {s:ByteArray} (h:rdDd s=none):rdDdD s=(noDd,false):=by unfold rdDdD;rw [h]
theorem zakz (c:UInt8):∀ l:List UInt8,(cutL c l).length=l.count c+1
 | []=>by simp [cutL]
 | b :: r=>by
   have ih:=zakz c r;rw [cutL,List.count_cons]
   by_cases h:b=c
   · subst h
     simp [ih]
   · have hb:(b == c)=false:=by simpa using h
     rw [if_neg h,hb]
     cases hq:cutL c r with
     | nil=>rw [hq] at ih;simp at ih
     | cons p ps=>rw [hq] at ih;simpa using ih
def wordsI (s:ByteArray):List ByteArray:=Lib.splitB ⟨#[32]⟩ 0 (min 4 (s.size+1) - 1) s
theorem zart {d:Dd} (h:ddIn d=true):wordsI (deedB d)=cutB 32 (deedB d):=by
 refine zak5 ?_
 have hl:(cutB 32 (deedB d)).length≤3:=by
  rw [zage h]
  split
  · simp
  · split <;> simp
 have hc:=zakz 32 (deedB d).data.toList
 have e:(cutB 32 (deedB d)).length=(cutL 32 (deedB d).data.toList).length:=by simp [cutB]
 have hsz:=List.count_le_length (a:=(32:UInt8)) (l:=(deedB d).data.toList);have e2:(deedB d).data.toList.length=(deedB d).size:=rfl
 omega
theorem zatl (sep:ByteArray) (k:Nat) (s:ByteArray):0<(Lib.splitB sep 0 k s).length:=by
 cases k with
 | zero=>simp [Lib.splitB]
 | succ k=>unfold Lib.splitB;split <;> simp
theorem zak0 (s:ByteArray):0<(wordsI s).length∧(wordsI s).length≤4:=by
 refine ⟨zatl _ _ _,?_⟩
 have:=Lib.splitB_length_le ⟨#[32]⟩ 0 (min 4 (s.size+1) - 1) s;unfold wordsI
 omega
theorem zai6 (sep:ByteArray):∀ (k:Nat) (s:ByteArray),∀ p ∈ Lib.splitB sep 0 k s,p.size≤s.size
 | 0,s,p,h=>by simp [Lib.splitB] at h;subst h;exact Nat.le_refl _
 | k+1,s,p,h=>by
   unfold Lib.splitB at h
   split at h
   · simp at h;subst h;exact Nat.le_refl _
   · rcases List.mem_cons.1 h with rfl|h
     · simp [ByteArray.size_extract];omega
     · have:=zai6 sep k _ p h
       simp [ByteArray.size_extract] at this
       omega
theorem zaru (s:ByteArray) {j:Nat} (h:j<(wordsI s).length):(nth (wordsI s) j).size≤s.size:=zai6 _ _ _ _ (zaaf h)
theorem zah5 {s:ByteArray} {d:Dd} (h:ddIn d=true) (e:deedB d=s):kindF (nth (wordsI s) 0)=d.kind∧(1<(wordsI s).length→atoF (nth (wordsI s) 1)=some d.index)∧(¬ 1<(wordsI s).length→d.index=0)∧(2<(wordsI s).length→rdLeg (nth (wordsI s) 2)=some d.leg)∧(¬ 2<(wordsI s).length→d.leg=noLeg):=by
 subst e;rw [zart h,zage h];have h':=h;unfold ddIn at h';simp only [Bool.and_eq_true,inB,decide_eq_true_eq,Bool.or_eq_true,Bool.not_eq_true',Bool.or_eq_false_iff,decide_eq_false_iff_not] at h';obtain ⟨⟨⟨hk,hi⟩,h45⟩,hl⟩:=h';have hkn:=zae3 hk;have ha:=zacj (n:=d.index) qO
 by_cases h03:d.kind=0∨d.kind=3
 · rw [if_pos h03] at hl ⊢
   exact ⟨hkn,fun _=>ha,fun h=>absurd (show 1<3 by decide) h,fun _=>rdLeg_iff.2 ⟨hl,rfl⟩,fun h=>absurd (show 2<3 by decide) h⟩
 · rw [if_neg h03] at hl ⊢
   have hg:d.leg=noLeg:=by simpa using hl
   by_cases h4:d.kind<4
   · rw [if_pos h4]
     exact ⟨hkn,fun _=>ha,fun h=>absurd (show 1<2 by decide) h,fun h=>absurd h (show ¬ 2<2 by decide),fun _=>hg⟩
   · rw [if_neg h4]
     exact ⟨hkn,fun h=>absurd h (show ¬ 1<1 by decide),fun _=>by omega,fun h=>absurd h (show ¬ 2<1 by decide),fun _=>hg⟩
theorem zaw1 {s:ByteArray} (h1:1<(wordsI s).length) (h:atoF (nth (wordsI s) 1)=none):rdDdD s=(noDd,false) :=
 zag4 (zasi fun d hd e=>by
  have:=(zah5 hd e).2.1 h1
  rw [h] at this;cases this)
theorem zaw2 {s:ByteArray} (h1:2<(wordsI s).length) (h:(rdLegD (nth (wordsI s) 2)).2=false):rdDdD s=(noDd,false) :=
 zag4 (zasi fun d hd e=>by
  have:=(zah5 hd e).2.2.2.1 h1
  rw [zadh this] at h;cases h)
theorem zaw3 {s:ByteArray} (h0:s.size≠0) {v:Int} {g:Lg} (h1:1<(wordsI s).length→atoF (nth (wordsI s) 1)=some v) (h2:¬ 1<(wordsI s).length→v=0) (h3:2<(wordsI s).length→rdLegD (nth (wordsI s) 2)=(g,true)) (h4:¬ 2<(wordsI s).length→g=noLeg) :
 rdDdD s=if deedB ⟨kindF (nth (wordsI s) 0),v,g⟩=s then (⟨kindF (nth (wordsI s) 0),v,g⟩,true) else (noDd,false):=by
 have hc:=zave (s:=s) (g:=⟨kindF (nth (wordsI s) 0),v,g⟩) fun d hd e=>by
  obtain ⟨k1,k2,k3,k4,k5⟩:=zah5 hd e
  have e1:d.index=v:=by
   by_cases h:1<(wordsI s).length
   · have:=k2 h;rw [h1 h] at this;exact (Option.some.inj this).symm
   · rw [k3 h,h2 h]
  have e2:d.leg=g:=by
   by_cases h:2<(wordsI s).length
   · have:=zadh (k4 h);rw [h3 h] at this;injection this with this _;exact this.symm
   · rw [k5 h,h4 h]
  obtain ⟨a,b,c⟩:=d;simp only at k1 e1 e2;rw [k1,e1,e2]
 by_cases hl:deedB ⟨kindF (nth (wordsI s) 0),v,g⟩=s
 · rw [if_pos ⟨hl,h0⟩] at hc
   rw [if_pos hl]
   exact zatk hc
 · rw [if_neg (fun h=>hl h.1)] at hc
   rw [if_neg hl]
   exact zag4 hc
theorem zatm (s:ByteArray) (w:World) (hs:s.size≤1048576) (hw:Lby w) :
 Calls Tryz.prog 95 #[.string s,.string ⟨#[32]⟩,.int .i64 4] w fun e w'=>e=.returned (.slice (some ⟨w.heap.size,0,none⟩) (wordsI s).length (min 4 (s.size+1)))∧w.alloc (.cells (Lib.cellsOf (wordsI s) (min 4 (s.size+1))) 9)=w':=by
 obtain ⟨m,hm⟩:=hw.maxl
 refine (Tryz.strings_SplitN s ⟨#[32]⟩ 4 m w qO hm (Nat.le_refl 1) (by decide) (by decide)).mono fun e w' he=>?_
 exact ⟨he.1,he.2.symm⟩
theorem zarv (ws:List ByteArray) (n:Nat) {j:Nat} (h:j<ws.length):(Lib.cellsOf ws n).toList[j]?=some (.string (nth ws j)):=by
 unfold Lib.cellsOf;simp only;rw [List.getElem?_append_left (by simpa using h),List.getElem?_map,getElem?_nth h]
 rfl
end Go.Proofs.YthfoloefkfadlaaGreatDoor
