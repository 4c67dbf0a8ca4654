/- Walks of draws: DrawDeedsRun (written by wip/bin/gen_dr12.py). -/
import Derived.Test.YtdgnndlhnblenaaDoorR3
import Derived.Test.YtdgnndlhnblenaaDoorK9
set_option linter.unusedSimpArgs false
set_option linter.unusedVariables false
namespace Go.Proofs.YtdgnndlhnblenaaDoor
open Go Go.RowKit Go.Sort

/-- deeds under way: the reader, the result's box, the boxes of the survey drawn and of the one that stands, the deeds so far -/
structure RnDr (w : World) (R X Z Y B : Nat) (a : Option Addr) (n c q : Nat) (st : Int) (l : List Lg) (av : Option Addr) (cv : Nat) (xst : Int) (xl : List Lg) (ax : Option Addr) (cx : Nat) (us : List Dd) (ao : Option Addr) (co : Nat) (wr : World) : Prop where
  r : Rdr wr R a n c q
  x : At wr X [.int .i64 0, .slice none 0 0]
  z : At wr Z [.int .i64 st, .slice av l.length cv]
  y : At wr Y [.int .i64 xst, .slice ax xl.length cx]
  ol : OwnL wr B (.slice av l.length cv) l
  ox : OwnL wr B (.slice ax xl.length cx) xl
  oo : OwnD wr B (.slice ao us.length co) us
  nl : ∀ k, (Value.slice av l.length cv).ownBlock = some k → k ≠ Y
  nx : ∀ k, (Value.slice ax xl.length cx).ownBlock = some k → k ≠ Y
  no : ∀ k, (Value.slice ao us.length co).ownBlock = some k → k ≠ Z ∧ k ≠ Y
  dl : ∀ k, (Value.slice av l.length cv).ownBlock = some k → (Value.slice ao us.length co).ownBlock ≠ some k
  dx : ∀ k, (Value.slice ax xl.length cx).ownBlock = some k → (Value.slice ao us.length co).ownBlock ≠ some k
  up : Below w.heap.size w wr
  wx : w.heap.size ≤ X
  xr : X < R
  rb : R < B
  bz : B ≤ Z
  zy : Z < Y
  code : ∀ b off, 0 < n → a = some ⟨b, off, none⟩ → b < B
section
variable {w wr w2 : World} {R X Z Y B : Nat} {a : Option Addr} {n c q q' : Nat} {st : Int} {l : List Lg} {av : Option Addr} {cv : Nat} {xst : Int} {xl : List Lg} {ax : Option Addr} {cx : Nat} {us : List Dd} {ao : Option Addr} {co : Nat}
theorem RnDr.below (h : RnDr w R X Z Y B a n c q st l av cv xst xl ax cx us ao co wr) (hb : Below wr.heap.size wr w2) : RnDr w R X Z Y B a n c q st l av cv xst xl ax cx us ao co w2 :=
  ⟨h.r.below hb, h.x.below hb, h.z.below hb, h.y.below hb, h.ol.below hb, h.ox.below hb, h.oo.below hb, h.nl, h.nx, h.no, h.dl, h.dx, h.up.trans (hb.mono h.up.size), h.wx, h.xr, h.rb, h.bz, h.zy, h.code⟩
theorem RnDr.upto (h : RnDr w R X Z Y B a n c q st l av cv xst xl ax cx us ao co wr) (hr : Rdr w2 R a n c q') (hu : Upto wr.heap.size R wr w2) : RnDr w R X Z Y B a n c q' st l av cv xst xl ax cx us ao co w2 :=
  ⟨hr, h.x.upto hu h.x.lt (by have := h.xr; omega), h.z.upto hu h.z.lt (by have := h.rb; have := h.bz; omega), h.y.upto hu h.y.lt (by have := h.rb; have := h.bz; have := h.zy; omega),
    h.ol.upto h.rb hu (fun k hk => (h.ol.lt hk).2), h.ox.upto h.rb hu (fun k hk => (h.ox.lt hk).2), h.oo.upto h.rb hu (fun k hk => (h.oo.lt hk).2),
    h.nl, h.nx, h.no, h.dl, h.dx, upto_new h.up (by have := h.wx; have := h.xr; omega) h.up.size hu, h.wx, h.xr, h.rb, h.bz, h.zy, h.code⟩
theorem RnDr.alloc (h : RnDr w R X Z Y B a n c q st l av cv xst xl ax cx us ao co wr) (o : Obj) : RnDr w R X Z Y B a n c q st l av cv xst xl ax cx us ao co (wr.alloc o) := h.below ((Below.refl _ _).alloc (Nat.le_refl _) o)
/-- another survey stands -/
theorem RnDr.put (h : RnDr w R X Z Y B a n c q st l av cv xst xl ax cx us ao co wr) {tst : Int} {tl : List Lg} {aT : Option Addr} {cT : Nat} {B' : Nat} (ho : OwnL wr B' (.slice aT tl.length cT) tl) (hB : Y < B') (hd : ∀ k, (Value.slice ao us.length co).ownBlock = some k → k < B') :
    RnDr w R X Z Y B a n c q st l av cv tst tl aT cT us ao co ((wr.setCell ⟨Y, 0, none⟩ (.int .i64 tst)).setCell ⟨Y, 1, none⟩ (.slice aT tl.length cT)) := by
  have h0 := h.wx
  have h1 := h.xr
  have h2 := h.rb
  have h3 := h.bz
  have h4 := h.zy
  have hb : Below Y wr ((wr.setCell ⟨Y, 0, none⟩ (.int .i64 tst)).setCell ⟨Y, 1, none⟩ (.slice aT tl.length cT)) := ((Below.refl Y wr).setCell (p := ⟨Y, 0, none⟩) (Nat.le_refl _) _).setCell (p := ⟨Y, 1, none⟩) (Nat.le_refl _) _
  refine ⟨Rdr.keep h.r (by omega) (fun b off h0 e => by have := h.code b off h0 e; omega) hb, h.x.belowB hb (by omega), h.z.belowB hb h4, h.y.sets2 _ _, ?_, ?_, ?_, h.nl, fun k hk => ?_, h.no, h.dl, fun k hk e => ?_, h.up.trans (hb.mono (by omega)), h.wx, h.xr, h.rb, h.bz, h.zy, h.code⟩
  · exact (h.ol.setOther (p := ⟨Y, 0, none⟩) (fun e => h.nl _ e rfl) _).setOther (p := ⟨Y, 1, none⟩) (fun e => h.nl _ e rfl) _
  · exact ((ho.setCell (p := ⟨Y, 0, none⟩) hB _).setCell (p := ⟨Y, 1, none⟩) hB _).mono (by omega)
  · exact (h.oo.setOther (p := ⟨Y, 0, none⟩) (fun e => (h.no _ e).2 rfl) _).setOther (p := ⟨Y, 1, none⟩) (fun e => (h.no _ e).2 rfl) _
  · have := (ho.lt hk).1; omega
  · have := (ho.lt hk).1; have := hd k e; omega
/-- one deed more -/
theorem RnDr.more (h : RnDr w R X Z Y B a n c q st l av cv xst xl ax cx us ao co wr) {us' : List Dd} {ao' : Option Addr} {co' : Nat} (hg : wr.grownBy w2 (Value.slice ao us.length co).ownBlock) (ho : OwnD w2 B (.slice ao' us'.length co') us') (hr : ∀ k, (Value.slice ao' us'.length co').ownBlock = some k → (Value.slice ao us.length co).ownBlock = some k ∨ wr.heap.size ≤ k) :
    RnDr w R X Z Y B a n c q st l av cv xst xl ax cx us' ao' co' w2 := by
  have h0 := h.wx
  have h1 := h.xr
  have h2 := h.rb
  have h3 := h.bz
  have h4 := h.zy
  have hz := h.z.lt
  have hy := h.y.lt
  have hB : Below B wr w2 := grown_below hg (by omega) (fun k e => (h.oo.lt e).1)
  have hW : Wr (fun k => (Value.slice ao us.length co).ownBlock = some k) wr w2 := Wr.ofGrown hg fun k e => e
  refine ⟨Rdr.keep (B := B) h.r (by omega) (fun b off h0 e => by have := h.code b off h0 e; omega) hB, h.x.belowB hB (by omega), h.z.block (hg.block Z hz fun e => (h.no Z e.symm).1 rfl), h.y.block (hg.block Y hy fun e => (h.no Y e.symm).2 rfl), KOwn.wr h.ol hW fun k e e2 => h.dl k e e2, KOwn.wr h.ox hW fun k e e2 => h.dx k e e2, ho, h.nl, h.nx, fun k e => ?_, fun k e e2 => ?_, fun k e e2 => ?_, h.up.trans (hB.mono (by omega)), h.wx, h.xr, h.rb, h.bz, h.zy, h.code⟩
  · rcases hr k e with e2 | e2
    · exact h.no k e2
    · omega
  · rcases hr k e2 with e3 | e3
    · exact h.dl k e e3
    · have := (h.ol.lt e).2; omega
  · rcases hr k e2 with e3 | e3
    · exact h.dx k e e3
    · have := (h.ox.lt e).2; omega
end

/-- a survey and deeds drawn, both the call's own -/
def DrawnSL (w : World) (e : Ending) (w' : World) : Prop := ∃ (s : Sv) (v : Value) (l : List Dd) (u : Value), e = .returned (.tuple #[.agg #[.int .i64 s.st, v], u]) ∧
  OwnL w' w.heap.size v s.legs ∧ OwnD w' w.heap.size u l ∧ s.legs.length ≤ 10 ∧ (0 ≤ s.st ∧ s.st ≤ 7) ∧ l.length ≤ 8 ∧ Below w.heap.size w w'
theorem RnDr.done {w wr : World} {R X Z Y B : Nat} {a : Option Addr} {n c q : Nat} {st : Int} {l : List Lg} {av : Option Addr} {cv : Nat} {xst : Int} {xl : List Lg} {ax : Option Addr} {cx : Nat} {us : List Dd} {ao : Option Addr} {co : Nat} (h : RnDr w R X Z Y B a n c q st l av cv xst xl ax cx us ao co wr) (hl : l.length ≤ 10) (hst : 0 ≤ st ∧ st ≤ 7) (hus : us.length ≤ 8) :
    DrawnSL w (.returned (.tuple #[.agg #[.int .i64 st, .slice av l.length cv], .slice ao us.length co])) ((wr.setCell ⟨X, 0, none⟩ (.int .i64 st)).setCell ⟨X, 1, none⟩ (.slice av l.length cv)) := by
  have h0 := h.wx
  have h1 := h.xr
  have h2 := h.rb
  have hX : X < B := by omega
  refine ⟨⟨st, l⟩, _, us, _, rfl, ?_, ?_, hl, hst, hus, (h.up.setCell (p := ⟨X, 0, none⟩) h0 _).setCell (p := ⟨X, 1, none⟩) h0 _⟩
  · exact ((h.ol.setCell (p := ⟨X, 0, none⟩) hX _).setCell (p := ⟨X, 1, none⟩) hX _).mono (by omega)
  · exact ((h.oo.setCell (p := ⟨X, 0, none⟩) hX _).setCell (p := ⟨X, 1, none⟩) hX _).mono (by omega)

set_option maxRecDepth 100000 in
set_option maxHeartbeats 8000000 in
theorem drawDeedsRun_any (a : Option Addr) (n c : Nat) (w : World) (hc : n ≤ c) (hn : n ≤ 1048576) (hb : Bytes w a n) : Calls Tryd.prog 24 #[.slice a n c] w (DrawnSL w) := by
  obtain ⟨W0, hW0⟩ : ∃ W0, W0 = w.alloc (.cells #[.int .i64 0, .slice none 0 0] 25) := ⟨_, rfl⟩
  obtain ⟨X, hX⟩ : ∃ X, w.heap.size = X := ⟨_, rfl⟩
  have x0 : At W0 X [.int .i64 0, .slice none 0 0] := by rw [hW0]; exact At.new _ _ _ hX.symm rfl
  have b0 : Below w.heap.size w W0 := by rw [hW0]; exact (by repeat (first | with_reducible assumption | exact Below.refl _ _ | refine below_drewN ?_ _ | refine Below.drew ?_ | refine Below.alloc ?_ (by first | omega | (simp; done) | (simp; omega)) _ | refine Below.setCell ?_ (by first | omega | (simp; done) | (simp; omega)) _))
  go_enter Tryd.func24, Tryd.ntmps24
  go_wp2_with fail
  rw [← hW0]
  clear hW0
  refine (l20Open_any a n c _ hc hn (hb.below b0)).mono ?_
  rintro e w1 ⟨n', c', rfl, hr, b1⟩
  obtain ⟨R, hR⟩ : ∃ R, W0.heap.size = R := ⟨_, rfl⟩
  rw [hR] at hr ⊢
  have hXR : X < R := by have := x0.lt; omega
  have hwX : w.heap.size ≤ X := by omega
  have hR1 : R < w1.heap.size := hr.lt
  have hcode : ∀ b off, 0 < n' → a = some ⟨b, off, none⟩ → b < w1.heap.size := fun b off h0 e => by
    obtain ⟨b', off', e', hlt, _⟩ := hr.bytes h0
    rw [e] at e'
    cases e'
    omega
  replace x0 := x0.below b1
  replace b0 := b0.trans (b1.mono b0.size)
  clear b1 hR
  go_wp2_with fail
  refine (l20Survey_any R a n' c' 0 9 _ hr (by omega) (by omega)).mono ?_
  rintro e w2 ⟨⟨st, l⟩, v, q, rfl, o, hl, hst, hq, hr2, u2⟩
  obtain ⟨av, cv, rfl⟩ := o.sl
  replace x0 := x0.upto u2 x0.lt (by omega)
  have hs12 := u2.size
  replace b0 := upto_new b0 (by omega) b0.size u2
  simp only at o hl hst ⊢
  clear u2 hr
  go_upto_region 5 with fail
  obtain ⟨Y, hY⟩ : ∃ Y, w2.heap.size + 1 + 1 = Y := ⟨_, rfl⟩
  obtain ⟨O, hO⟩ : ∃ O, w2.heap.size + 1 = O := ⟨_, rfl⟩
  obtain ⟨Z, hZ⟩ : ∃ Z, w2.heap.size = Z := ⟨_, rfl⟩
  rw [hY, hO, hZ]
  obtain ⟨V, hV⟩ : ∃ V, V = ((w2.alloc (.cells #[.int .i64 st, .slice av l.length cv] 25)).alloc (.cells #[] 29)).alloc (.cells #[.int .i64 st, .slice av l.length cv] 25) := ⟨_, rfl⟩
  have z0 : At V Z [.int .i64 st, .slice av l.length cv] := by rw [hV]; exact ((At.new _ _ _ hZ.symm rfl).alloc _).alloc _
  have y0 : At V Y [.int .i64 st, .slice av l.length cv] := by rw [hV]; exact At.new _ _ _ (by simp; omega) rfl
  have oo0 : OwnD V w1.heap.size (.slice (some ⟨O, 0, none⟩) ([] : List Dd).length 0) [] := by
    rw [hV]
    have := KOwn.lit (K := ddK) (T := 29) (w2.alloc (.cells #[.int .i64 st, .slice av l.length cv] 25)) w1.heap.size (by simp; omega)
    simp only [World.size_alloc, hO] at this
    exact this.alloc _
  have bV : Below w2.heap.size w2 V := by rw [hV]; exact (by repeat (first | with_reducible assumption | exact Below.refl _ _ | refine below_drewN ?_ _ | refine Below.drew ?_ | refine Below.alloc ?_ (by first | omega | (simp; done) | (simp; omega)) _ | refine Below.setCell ?_ (by first | omega | (simp; done) | (simp; omega)) _))
  rw [← hV]
  have H0 : RnDr w R X Z Y w1.heap.size a n' c' q st l av cv st l av cv [] (some ⟨O, 0, none⟩) 0 V := by
    have hlt : ∀ k, (Value.slice av l.length cv).ownBlock = some k → k < Z := fun k hk => by have := (o.lt hk).2; omega
    refine ⟨hr2.below bV, x0.below bV, z0, y0, o.below bV, o.below bV, oo0, fun k hk => ?_, fun k hk => ?_, fun k hk => ?_, fun k hk e => ?_, fun k hk e => ?_, b0.trans (bV.mono b0.size), hwX, hXR, hR1, by omega, by omega, hcode⟩
    · have := hlt k hk; omega
    · have := hlt k hk; omega
    · cases hk; exact ⟨by show O ≠ Z; omega, by show O ≠ Y; omega⟩
    · have h1 := hlt k hk; cases e; have h2 : O < Z := h1; omega
    · have h1 := hlt k hk; cases e; have h2 : O < Z := h1; omega
  have hm0 : l.length ≤ 10 := hl
  clear hV bV hY hO hZ x0 b0 z0 y0 oo0 o hr2 hb hs12
  go_wp2_with fail
  refine (pick_up _ _ _ _ _ _ _ H0.r (by omega) (by omega)).mono ?_
  rintro e w3 ⟨k0, rfl, hk0, -, hr, u1⟩
  replace hk0 := hk0 (by omega)
  have H1 := H0.upto hr (u1 _)
  clear H0 hr u1
  go_wp2_with fail
  go_loopw [6, 8] (fun o i wr => ∃ (k q2 : Nat) (xst : Int) (xl : List Lg) (ax : Option Addr) (cx : Nat) (us : List Dd) (ao : Option Addr) (co : Nat), k ≤ 8 ∧ i = .int .i64 k ∧ o = .slice ao us.length co ∧ xl.length ≤ 10 ∧ (0 ≤ xst ∧ xst ≤ 7) ∧ us.length + k ≤ 8 ∧ q2 + 30 * k ≤ q + 400 ∧ RnDr w R X Z Y w1.heap.size a n' c' q2 st l av cv xst xl ax cx us ao co wr) (fun _ i _ => (intOf i).toNat)
  case atStart => exact ⟨k0, q + 1, st, l, av, cv, [], some ⟨O, 0, none⟩, 0, by omega, rfl, rfl, hl, hst, by simp; omega, by omega, H1⟩
  case round =>
    clear H1 hm0
    obtain ⟨k, q2, xst, xl, ax, cx, us, ao, co, hk, rfl, rfl, hxl, hxst, hus, hq2, H⟩ := hrel
    by_cases hk0 : 0 < k
    · obtain ⟨y, y0, y1, yf⟩ := id H.y.facts2
      go_wp2_with fail
      refine (l20Deed_any R a n' c' _ ax xl.length cx xst _ H.r (by omega) hxl hxst).mono ?_
      rintro e w4 ⟨⟨kd, ix, ⟨g1, g2, g3, g4, g5⟩⟩, q3, rfl, -, -, hq3, hr3, u3⟩
      have H3 := H.upto hr3 u3
      clear H hr3 u3 y y0 y1 yf
      simp only
      go_upto_region 9 with fail
      obtain ⟨DZ, hDZ⟩ : ∃ Z, w4.heap.size = Z := ⟨_, rfl⟩
      obtain ⟨w5, hV⟩ : ∃ V, V = w4.alloc (.cells #[.int .i64 kd, .int .i64 ix, .int .i64 g1, .int .i64 g2, .int .i64 g3, .int .i64 g4, .int .i64 g5] 29) := ⟨_, rfl⟩
      have D0 : At w5 DZ [.int .i64 kd, .int .i64 ix, .int .i64 g1, .int .i64 g2, .int .i64 g3, .int .i64 g4, .int .i64 g5] := by rw [hV]; exact At.new _ _ _ hDZ.symm rfl
      have bV : Below w4.heap.size w4 w5 := by rw [hV]; exact (by repeat (first | with_reducible assumption | exact Below.refl _ _ | refine below_drewN ?_ _ | refine Below.drew ?_ | refine Below.alloc ?_ (by first | omega | (simp; done) | (simp; omega)) _ | refine Below.setCell ?_ (by first | omega | (simp; done) | (simp; omega)) _))
      have hYD : Y < DZ := by have := H3.y.lt; omega
      rw [hDZ, ← hV]
      replace H3 := H3.below bV
      clear hV bV hDZ
      obtain ⟨⟨⟨tst, tl⟩, ok⟩, hp⟩ : ∃ p, ddDo ⟨xst, xl⟩ ⟨kd, ix, ⟨g1, g2, g3, g4, g5⟩⟩ = p := ⟨_, rfl⟩
      have htl : tl.length ≤ 9 := by have := ddDo_len ⟨xst, xl⟩ ⟨kd, ix, ⟨g1, g2, g3, g4, g5⟩⟩; rw [hp] at this; exact this
      have htst : ok = true → 0 ≤ tst ∧ tst ≤ 7 := fun hok => by
        have h3 := (ddDo_ok (s := ⟨xst, xl⟩) (d := ⟨kd, ix, ⟨g1, g2, g3, g4, g5⟩⟩) (by rw [hp]; exact hok)).2.2
        rw [hp] at h3
        have h4 := svOk_iff.1 h3
        simp only at h4
        omega
      have hcap := H3.ox.caps
      have KS := Lib.hid (show ∀ (w' : World), Legs w' ax xl → Calls Tryd.prog 17 #[.agg #[.int .i64 xst, .slice ax xl.length cx], .agg #[.int .i64 kd, .int .i64 ix, .int .i64 g1, .int .i64 g2, .int .i64 g3, .int .i64 g4, .int .i64 g5]] w' (SvOut (⟨tst, tl⟩, ok) w') from fun w' h => by
        have := sdeedDo_any ax cx xst xl ⟨kd, ix, ⟨g1, g2, g3, g4, g5⟩⟩ w' (by omega) hcap.1 hcap.2.1 hcap.2.2 h
        rw [hp] at this
        exact this)
      have HT := Lib.hid htst
      clear hp hcap htst
      obtain ⟨y, y0, y1, yf⟩ := id H3.y.facts2
      obtain ⟨d, d0, d1, d2, d3, d4, d5, d6, df⟩ := id D0.facts7
      go_wp2_with fail
      refine (KS.out _ H3.ox.kr).mono ?_
      rintro e w6 ⟨vT, rfl, oT, c⟩
      obtain ⟨aT, cT, rfl⟩ := oT.sl
      have hYT : Y < w5.heap.size := y
      have hus5 : ∀ k, (Value.slice ao us.length co).ownBlock = some k → k < w5.heap.size := fun k e => (H3.oo.lt e).2
      have H6 := H3.below c
      replace D0 := D0.below c
      simp only at oT ⊢
      clear c KS H3 y y0 y1 yf d d0 d1 d2 d3 d4 d5 d6 df
      go_upto_region 10 with fail
      obtain ⟨TZ, hTZ⟩ : ∃ Z, w6.heap.size = Z := ⟨_, rfl⟩
      obtain ⟨w7, hV⟩ : ∃ V, V = w6.alloc (.cells #[.int .i64 tst, .slice aT tl.length cT] 25) := ⟨_, rfl⟩
      have T0 : At w7 TZ [.int .i64 tst, .slice aT tl.length cT] := by rw [hV]; exact At.new _ _ _ hTZ.symm rfl
      have bV : Below w6.heap.size w6 w7 := by rw [hV]; exact (by repeat (first | with_reducible assumption | exact Below.refl _ _ | refine below_drewN ?_ _ | refine Below.drew ?_ | refine Below.alloc ?_ (by first | omega | (simp; done) | (simp; omega)) _ | refine Below.setCell ?_ (by first | omega | (simp; done) | (simp; omega)) _))
      have hDT : DZ < TZ := by have := D0.lt; omega
      rw [hTZ, ← hV]
      replace H6 := H6.below bV
      replace D0 := D0.below bV
      replace oT := oT.below bV
      clear hV bV hTZ
      cases ok with
      | true =>
        have htst := HT.out rfl
        have H7 := H6.put (tst := tst) oT hYT hus5
        have D7 : At ((w7.setCell ⟨Y, 0, none⟩ (.int .i64 tst)).setCell ⟨Y, 1, none⟩ (.slice aT tl.length cT)) DZ [.int .i64 kd, .int .i64 ix, .int .i64 g1, .int .i64 g2, .int .i64 g3, .int .i64 g4, .int .i64 g5] := (D0.setOther (p := ⟨Y, 0, none⟩) (by show DZ ≠ Y; omega) _).setOther (p := ⟨Y, 1, none⟩) (by show DZ ≠ Y; omega) _
        obtain ⟨t, t0, t1, tf⟩ := id T0.facts2
        obtain ⟨y, y0, y1, yf⟩ := id H6.y.facts2
        go_upto_region 12 with fail
        obtain ⟨w8, hW8⟩ : ∃ W, (w7.setCell ⟨Y, 0, none⟩ (.int .i64 tst)).setCell ⟨Y, 1, none⟩ (.slice aT tl.length cT) = W := ⟨_, rfl⟩
        rw [hW8] at H7 D7 ⊢
        clear hW8 t t0 t1 tf y y0 y1 yf H6 D0 T0 oT hus5
        obtain ⟨d, d0, d1, d2, d3, d4, d5, d6, df⟩ := id D7.facts7
        have oo := H7.oo
        go_wp2_with (at_builtin; refine wpList_kApp ddI _ _ rfl rfl w1.heap.size (.slice ao us.length co) us [⟨kd, ix, ⟨g1, g2, g3, g4, g5⟩⟩] (some ⟨w8.heap.size, 0, none⟩) 1 rfl (oo.below ((Below.refl _ _).alloc (Nat.le_refl _) _)) rfl (ddHere w8 ⟨kd, ix, ⟨g1, g2, g3, g4, g5⟩⟩ _) (by omega) (by simp) (by have := H7.z.lt; have := H7.bz; simp; omega) ?_; rintro av9 cv9 w9 o9 g9 - p9; clear oo d d0 d1 d2 d3 d4 d5 d6 df)
        have H9 := (H7.alloc (.cells #[.int .i64 kd, .int .i64 ix, .int .i64 g1, .int .i64 g2, .int .i64 g3, .int .i64 g4, .int .i64 g5] 29)).more g9 o9 (fun k e => by
          rcases p9 with e2 | e2
          · left; rw [← e2]; exact e
          · right; rw [e2] at e; cases e; exact Nat.le_refl _)
        go_roundw
        case rel => exact ⟨k - 1, q3, tst, tl, aT, cT, us ++ [⟨kd, ix, ⟨g1, g2, g3, g4, g5⟩⟩], av9, cv9, by omega, by go_num, by simp, by omega, htst, by simp; omega, by omega, H9⟩
        case measure => simp [intOf]; omega
      | false =>
        clear oT HT T0 hus5
        go_wp2_with fail
        refine (odd_up R a n' c' _ 12 _ H6.r (by omega) (by omega) (by omega)).mono ?_
        rintro e w8 ⟨ob, rfl, hr8, u8⟩
        have H8 := H6.upto hr8 (u8 _)
        have D8 := D0.upto (u8 (DZ + 1)) (by omega) (by have := H6.rb; have := H6.bz; have := H6.zy; omega)
        clear H6 D0 hr8 u8
        cases ob with
        | false =>
          go_wp2_with fail
          go_roundw
          case rel => exact ⟨k - 1, q3 + 1, xst, xl, ax, cx, us, ao, co, by omega, by go_num, rfl, hxl, hxst, by omega, by omega, H8⟩
          case measure => simp [intOf]; omega
        | true =>
          obtain ⟨d, d0, d1, d2, d3, d4, d5, d6, df⟩ := id D8.facts7
          have oo := H8.oo
          go_wp2_with (at_builtin; refine wpList_kApp ddI _ _ rfl rfl w1.heap.size (.slice ao us.length co) us [⟨kd, ix, ⟨g1, g2, g3, g4, g5⟩⟩] (some ⟨w8.heap.size, 0, none⟩) 1 rfl (oo.below ((Below.refl _ _).alloc (Nat.le_refl _) _)) rfl (ddHere w8 ⟨kd, ix, ⟨g1, g2, g3, g4, g5⟩⟩ _) (by omega) (by simp) (by have := H8.z.lt; have := H8.bz; simp; omega) ?_; rintro av9 cv9 w9 o9 g9 - p9; clear oo d d0 d1 d2 d3 d4 d5 d6 df)
          have H9 := (H8.alloc (.cells #[.int .i64 kd, .int .i64 ix, .int .i64 g1, .int .i64 g2, .int .i64 g3, .int .i64 g4, .int .i64 g5] 29)).more g9 o9 (fun k e => by
            rcases p9 with e2 | e2
            · left; rw [← e2]; exact e
            · right; rw [e2] at e; cases e; exact Nat.le_refl _)
          go_roundw
          case rel => exact ⟨k - 1, q3 + 1, xst, xl, ax, cx, us ++ [⟨kd, ix, ⟨g1, g2, g3, g4, g5⟩⟩], av9, cv9, by omega, by go_num, by simp, hxl, hxst, by simp; omega, by omega, H9⟩
          case measure => simp [intOf]; omega
    · obtain rfl : k = 0 := by omega
      have FIN := Lib.hid (H.done hl hst (by omega))
      obtain ⟨z, z0, z1, zf⟩ := id H.z.facts2
      obtain ⟨r, r0, r1, rf⟩ := id H.x.facts2
      go_wp2_with fail
      exact bodyPost_ret (v := .tuple #[.agg #[.int .i64 st, .slice av l.length cv], .slice ao us.length co]) (by simp [results, Tryd.results24, go_sem, r, r0, r1]) rfl FIN.out
end Go.Proofs.YtdgnndlhnblenaaDoor
