/- Walks of reading a book: what lies in memory while it goes on. Walks: spec.ReadBook. -/
import Derived.Test.YtcilgpmeliegoaaGreatDoorB1
import Derived.Test.YtcilgpmeliegoaaGreatDoorT6
import Derived.Test.YtcilgpmeliegoaaGreatDoorK3
set_option linter.unusedSimpArgs false
set_option linter.unusedVariables false
namespace Go.Proofs.YtcilgpmeliegoaaGreatDoor
open Go Go.RowKit Go.Sort

theorem ddHereT (w : World) (x : Dd) (T : TypeId) : Dds (w.alloc (.cells #[.int .i64 x.kind, .int .i64 x.index, .int .i64 x.leg.frm, .int .i64 x.leg.to, .int .i64 x.leg.east, .int .i64 x.leg.north, .int .i64 x.leg.up] T)) (some ⟨w.heap.size, 0, none⟩) [x] := by
  refine KRd.mk (by simp) fun j u hu => ?_
  rw [Nat.zero_add]
  exact (At.new (X := w.heap.size) w _ T rfl rfl).c j u (by rw [flat_cons, flat_nil, List.append_nil] at hu; exact hu)
theorem KOwn.capsT {α : Type} [Inhabited α] {K : Kind α} {T : TypeId} {w : World} {B : Nat} {a : Option Addr} {n c : Nat} {xs : List α} (hh : KOwn K T w B (.slice a n c) xs) : xs.length ≤ c ∧ c ≤ 9223372036854775807 ∧ ∀ ad, a = some ad → ad.spot = none := by
  obtain ⟨a', c', e, h1, h2, -, -, h3⟩ := hh.form
  injection e with e1 e2 e3
  subst e1 e3
  exact ⟨h1, h2, fun ad h => by
    obtain ⟨b, o, sp⟩ := ad
    rcases hh.2 with ⟨e, _⟩ | ⟨g, cap, cur, e, _⟩
    · rw [h] at e; cases e
    · rw [h] at e; cases e; rfl⟩

/-- a book, the bytes read and a truth come back -/
def RkOut (p : (Bk × Nat) × Bool) (w : World) (e : Ending) (w' : World) : Prop := ∃ v1 v2 v3, e = .returned (.tuple #[.agg #[.int .i64 p.1.1.first.st, v1, v2, v3], .int .i64 (p.1.2 : Int), .bool p.2]) ∧ BkOwn w' w.heap.size v1 v2 v3 p.1.1 ∧ Below w.heap.size w w'

/-- a book being read: the result's box, the book's box, the box of the survey as it stands -/
structure BkSt (w : World) (X Z T B : Nat) (st : Int) (av : Option Addr) (cv : Nat) (l : List Lg) (ds : List Dd) (ad : Option Addr) (cd : Nat) (nst : Int) (an : Option Addr) (cn : Nat) (nl : List Lg) (wr : World) : Prop where
  x : At wr X [.int .i64 0, .slice none 0 0, .slice none 0 0, .slice none 0 0]
  z : At wr Z [.int .i64 st, .slice av l.length cv, .slice ad ds.length cd, .slice none 0 0]
  t : At wr T [.int .i64 nst, .slice an nl.length cn]
  ol : OwnL wr w.heap.size (.slice av l.length cv) l
  od : OwnD wr B (.slice ad ds.length cd) ds
  on : OwnL wr w.heap.size (.slice an nl.length cn) nl
  lk : ∀ k, (Value.slice av l.length cv).ownBlock = some k → k ≠ X ∧ k ≠ Z ∧ k ≠ T ∧ k < B
  nk : ∀ k, (Value.slice an nl.length cn).ownBlock = some k → k ≠ X ∧ k ≠ Z ∧ k ≠ T ∧ (Value.slice ad ds.length cd).ownBlock ≠ some k
  wx : w.heap.size ≤ X
  xz : X < Z
  zt : Z < T
  tb : T < B
  b : B ≤ wr.heap.size
  u : Below w.heap.size w wr
section
variable {w wr w2 : World} {X Z T B : Nat} {st : Int} {av : Option Addr} {cv : Nat} {l : List Lg} {ds : List Dd} {ad : Option Addr} {cd : Nat} {nst : Int} {an : Option Addr} {cn : Nat} {nl : List Lg}
theorem BkSt.below (h : BkSt w X Z T B st av cv l ds ad cd nst an cn nl wr) (hb : Below wr.heap.size wr w2) : BkSt w X Z T B st av cv l ds ad cd nst an cn nl w2 :=
  ⟨h.x.below hb, h.z.below hb, h.t.below hb, h.ol.below hb, h.od.below hb, h.on.below hb, h.lk, h.nk, h.wx, h.xz, h.zt, h.tb, Nat.le_trans h.b hb.size, h.u.trans (hb.mono h.u.size)⟩
theorem BkSt.alloc (h : BkSt w X Z T B st av cv l ds ad cd nst an cn nl wr) (o : Obj) : BkSt w X Z T B st av cv l ds ad cd nst an cn nl (wr.alloc o) := h.below ((Below.refl _ _).alloc (Nat.le_refl _) o)
/-- another survey stands -/
theorem BkSt.put (h : BkSt w X Z T B st av cv l ds ad cd nst an cn nl wr) {B1 : Nat} {nst' : Int} {an' : Option Addr} {cn' : Nat} {nl' : List Lg} (hB1 : B ≤ B1) (ho : OwnL wr B1 (.slice an' nl'.length cn') nl') (hd : ∀ k, (Value.slice ad ds.length cd).ownBlock = some k → k < B1) :
    BkSt w X Z T B st av cv l ds ad cd nst' an' cn' nl' ((wr.setCell ⟨T, 0, none⟩ (.int .i64 nst')).setCell ⟨T, 1, none⟩ (.slice an' nl'.length cn')) := by
  have h1 := h.xz
  have h2 := h.zt
  have h3 := h.tb
  have h4 := h.wx
  refine ⟨(h.x.setOther (p := ⟨T, 0, none⟩) (by show X ≠ T; omega) _).setOther (p := ⟨T, 1, none⟩) (by show X ≠ T; omega) _, (h.z.setOther (p := ⟨T, 0, none⟩) (by show Z ≠ T; omega) _).setOther (p := ⟨T, 1, none⟩) (by show Z ≠ T; omega) _, h.t.sets2 _ _, ?_, (h.od.setCell (p := ⟨T, 0, none⟩) h3 _).setCell (p := ⟨T, 1, none⟩) h3 _, ?_, h.lk, fun k hk => ?_, h.wx, h.xz, h.zt, h.tb, by simpa [World.setCell] using h.b, (h.u.setCell (p := ⟨T, 0, none⟩) (by show _ ≤ T; omega) _).setCell (p := ⟨T, 1, none⟩) (by show _ ≤ T; omega) _⟩
  · exact (h.ol.setOther (p := ⟨T, 0, none⟩) (fun e => (h.lk _ e).2.2.1 rfl) _).setOther (p := ⟨T, 1, none⟩) (fun e => (h.lk _ e).2.2.1 rfl) _
  · exact ((ho.setCell (p := ⟨T, 0, none⟩) (by show T < B1; omega) _).setCell (p := ⟨T, 1, none⟩) (by show T < B1; omega) _).mono (by omega)
  · have := (ho.lt hk).1
    exact ⟨by omega, by omega, by omega, fun e => by have := hd k e; omega⟩
/-- one deed more, and the box told so -/
theorem BkSt.more (h : BkSt w X Z T B st av cv l ds ad cd nst an cn nl wr) {ds' : List Dd} {ad' : Option Addr} {cd' : Nat} (hb : Below B wr w2) (hg : wr.grownBy w2 (Value.slice ad ds.length cd).ownBlock) (ho : OwnD w2 B (.slice ad' ds'.length cd') ds') (hr : ∀ k, (Value.slice ad' ds'.length cd').ownBlock = some k → (Value.slice ad ds.length cd).ownBlock = some k ∨ wr.heap.size ≤ k) :
    BkSt w X Z T B st av cv l ds' ad' cd' nst an cn nl (w2.setCell ⟨Z, 2, none⟩ (.slice ad' ds'.length cd')) := by
  have h1 := h.xz
  have h2 := h.zt
  have h3 := h.tb
  have h4 := h.wx
  have hW : Wr (fun k => (Value.slice ad ds.length cd).ownBlock = some k) wr w2 := Wr.ofGrown hg fun k e => e
  have hz := (h.z.belowB hb (by omega)).set 2 (.slice ad' ds'.length cd')
  simp only [List.set_cons_succ, List.set_cons_zero] at hz
  refine ⟨(h.x.belowB hb (by omega)).setOther (p := ⟨Z, 2, none⟩) (by show X ≠ Z; omega) _, hz, (h.t.belowB hb (by omega)).setOther (p := ⟨Z, 2, none⟩) (by show T ≠ Z; omega) _, ?_, ho.setCell (p := ⟨Z, 2, none⟩) (by show Z < B; omega) _, ?_, h.lk, fun k hk => ?_, h.wx, h.xz, h.zt, h.tb, ?_, (h.u.trans (hb.mono (by omega))).setCell (p := ⟨Z, 2, none⟩) (by show _ ≤ Z; omega) _⟩
  · refine (KOwn.wr h.ol hW fun k e e2 => ?_).setOther (p := ⟨Z, 2, none⟩) (fun e => (h.lk _ e).2.1 rfl) _
    have := (h.lk k e).2.2.2
    have := (h.od.lt e2).1
    omega
  · exact (KOwn.wr h.on hW fun k e e2 => (h.nk k e).2.2.2 e2).setOther (p := ⟨Z, 2, none⟩) (fun e => (h.nk _ e).2.1 rfl) _
  · obtain ⟨n1, n2, n3, n4⟩ := h.nk k hk
    refine ⟨n1, n2, n3, fun e => ?_⟩
    rcases hr k e with e2 | e2
    · exact n4 e2
    · have := (h.on.lt hk).2; omega
  · have := hb.size
    have := h.b
    simp [World.setCell]; omega
/-- the book comes back -/
theorem BkSt.done (h : BkSt w X Z T B st av cv l ds ad cd nst an cn nl wr) (n : Nat) :
    RkOut ((⟨⟨st, l⟩, ds, []⟩, n), true) w (.returned (.tuple #[.agg #[.int .i64 st, .slice av l.length cv, .slice ad ds.length cd, .slice none 0 0], .int .i64 (n : Int), .bool true])) ((((wr.setCell ⟨X, 0, none⟩ (.int .i64 st)).setCell ⟨X, 1, none⟩ (.slice av l.length cv)).setCell ⟨X, 2, none⟩ (.slice ad ds.length cd)).setCell ⟨X, 3, none⟩ (.slice none 0 0)) := by
  have h1 := h.xz
  have h2 := h.zt
  have h3 := h.tb
  have h4 := h.wx
  refine ⟨_, _, _, rfl, ⟨?_, ?_, KOwn.nil, fun k e e2 => ?_, fun k e e2 => (by cases e2), fun k e e2 => (by cases e2)⟩, ?_⟩
  · have := fun (W : World) (o : Nat) (v : Value) (hh : OwnL W w.heap.size (.slice av l.length cv) l) => hh.setOther (p := ⟨X, o, none⟩) (fun e => (h.lk _ e).1 rfl) v
    exact this _ _ _ (this _ _ _ (this _ _ _ (this _ _ _ h.ol)))
  · have := fun (W : World) (o : Nat) (v : Value) (hh : OwnD W B (.slice ad ds.length cd) ds) => hh.setCell (p := ⟨X, o, none⟩) (by show X < B; omega) v
    exact (this _ _ _ (this _ _ _ (this _ _ _ (this _ _ _ h.od)))).mono (by omega)
  · have := (h.lk k e).2.2.2
    have := (h.od.lt e2).1
    omega
  · exact (((h.u.setCell (p := ⟨X, 0, none⟩) h4 _).setCell (p := ⟨X, 1, none⟩) h4 _).setCell (p := ⟨X, 2, none⟩) h4 _).setCell (p := ⟨X, 3, none⟩) h4 _
end
theorem rkOut_no {w wr : World} {X : Nat} (hX : w.heap.size ≤ X) (u : Below w.heap.size w wr) : RkOut ((⟨zeroSv, [], []⟩, 0), false) w (.returned (.tuple #[.agg #[.int .i64 0, .slice none 0 0, .slice none 0 0, .slice none 0 0], .int .i64 0, .bool false])) ((((wr.setCell ⟨X, 0, none⟩ (.int .i64 0)).setCell ⟨X, 1, none⟩ (.slice none 0 0)).setCell ⟨X, 2, none⟩ (.slice none 0 0)).setCell ⟨X, 3, none⟩ (.slice none 0 0)) :=
  ⟨_, _, _, rfl, ⟨KOwn.nil, KOwn.nil, KOwn.nil, fun k e => (by cases e), fun k e => (by cases e), fun k e => (by cases e)⟩, (((u.setCell (p := ⟨X, 0, none⟩) hX _).setCell (p := ⟨X, 1, none⟩) hX _).setCell (p := ⟨X, 2, none⟩) hX _).setCell (p := ⟨X, 3, none⟩) hX _⟩
end Go.Proofs.YtcilgpmeliegoaaGreatDoor

namespace Go.Proofs.YtcilgpmeliegoaaGreatDoor
open Go Go.RowKit Go.Sort

theorem l1Cut10 (s : ByteArray) (w : World) (hs : s.size ≤ 1048576) :
    Calls Tryz.prog 37 #[.string s, .int .u8 10] w fun e w' => ∃ a cp, e = .returned (.slice a (cutB 10 s).length cp) ∧ OwnT w' w.heap.size (.slice a (cutB 10 s).length cp) (cutB 10 s) ∧ Below w.heap.size w w' := l1Cut_any s 10 w hs
theorem tail_drop_nth {ws : List ByteArray} {k : Nat} (hk : k + 2 < ws.length) : nth ws.tail.dropLast k = nth ws (k + 1) := by
  rw [nth_drop_last (by rw [List.length_tail]; omega), tail_nth]

set_option maxRecDepth 100000 in
set_option maxHeartbeats 4000000 in
theorem sreadBook_any (s : ByteArray) (w : World) (hs : s.size ≤ 1048576) : Calls Tryz.prog 13 #[.string s] w (RkOut (rdBk s) w) := by
  have hlen := cutB_pos 10 s
  have hle : ∀ j, j < (cutB 10 s).length → (nth (cutB 10 s) j).size ≤ 1048576 := fun j hj => Nat.le_trans (cutB_le (nth_mem hj)) hs
  have hb20 := cutB_len 10 s
  have i1 := l1Cut10 s
  have HF := Lib.hid (@rdBk_few s)
  have HN := Lib.hid (fun (v : Sv) (h : rdSvD (nth (cutB 10 s) 0) = (v, false)) => rdBk_no h)
  have HY := Lib.hid (fun (v : Sv) (h : rdSvD (nth (cutB 10 s) 0) = (v, true)) (h2 : 2 ≤ (cutB 10 s).length) (ds : List Dd) (n : Nat) (hd : rdDs 40 v (cutB 10 s).tail.dropLast = (ds, n)) => rdBk_yes h h2 hd)
  obtain ⟨ws, hws⟩ : ∃ ws, ws = cutB 10 s := ⟨_, rfl⟩
  rw [← hws] at hlen hle i1 HF HN HY hb20
  have HS := Lib.hid hle
  clear hws hle
  obtain ⟨N, hN⟩ : ∃ N, N = ws.length := ⟨_, rfl⟩
  have HL := Lib.hid hN
  rw [← hN] at i1 hlen hb20
  clear hN
  have z0 := HS.out 0 (by rw [← HL.out]; exact hlen)
  have i2 := fun W => sreadSurvey_any (nth ws 0) W z0
  go_enter Tryz.func13, Tryz.ntmps13
  go_wp2_with fail
  obtain ⟨X, hX⟩ : ∃ X, w.heap.size = X := ⟨_, rfl⟩
  obtain ⟨W0, hW0⟩ : ∃ W0, W0 = w.alloc (.cells #[.int .i64 0, .slice none 0 0, .slice none 0 0, .slice none 0 0] 28) := ⟨_, rfl⟩
  have F0 : At W0 X [.int .i64 0, .slice none 0 0, .slice none 0 0, .slice none 0 0] := by rw [hW0]; exact At.new _ _ _ hX.symm rfl
  have b0 : Below w.heap.size w W0 := by rw [hW0]; exact (by repeat (first | with_reducible assumption | exact Below.refl _ _ | refine below_drewN ?_ _ | refine Below.drew ?_ | refine Below.alloc ?_ (by first | omega | (simp; done) | (simp; omega)) _ | refine Below.setCell ?_ (by first | omega | (simp; done) | (simp; omega)) _))
  have hXW0 := F0.lt
  rw [hX, ← hW0]
  clear hW0
  refine (i1 _ hs).mono ?_
  rintro e w1 ⟨a1, c1, rfl, o1, b1⟩
  replace F0 := F0.below b1
  replace b0 := b0.trans (b1.mono b0.size)
  clear b1 i1
  obtain ⟨P, rfl, hP1, hPl, hc1⟩ := OwnT.cells o1 (by rw [← HL.out]; exact hlen)
  have T0 : ∀ j, j < ws.length → w1.cell? ⟨P, j, none⟩ = some (.string (nth ws j)) := hc1
  have HT := Lib.hid T0
  have m0 := T0 0 (by rw [← HL.out]; exact hlen)
  clear hc1 o1 T0
  obtain ⟨⟨⟨st, l⟩, sb⟩, hsb⟩ : ∃ p, rdSvD (nth ws 0) = p := ⟨_, rfl⟩
  rw [hsb] at i2
  replace HN := Lib.hid (fun (h : sb = false) => HN.out ⟨st, l⟩ (by rw [hsb, h]))
  replace HY := Lib.hid (fun (h : sb = true) => HY.out ⟨st, l⟩ (by rw [hsb, h]))
  have hll : l.length ≤ 1048576 := by
    have := rdSvD_lenT (nth ws 0)
    rw [hsb] at this
    simp only at this
    omega
  clear hsb
  obtain ⟨t0, ht0⟩ : ∃ x, nth ws 0 = x := ⟨_, rfl⟩
  rw [ht0] at m0 i2 z0 HY
  clear ht0
  go_wp2_with fail
  refine (i2 _).mono ?_
  rintro e w2 ⟨v, rfl, ov, b2⟩
  obtain ⟨av, cv, rfl⟩ := ov.sl
  simp only at ov ⊢
  have hw1 := F0.lt
  replace F0 := F0.below b2
  replace HT := Lib.hid (fun j (hj : j < ws.length) => (b2.cell (p := ⟨P, j, none⟩) hPl).trans (HT.out j hj))
  replace m0 := (b2.cell (p := ⟨P, 0, none⟩) hPl).trans m0
  have hPl2 := Nat.lt_of_lt_of_le hPl b2.size
  replace b0 := b0.trans (b2.mono b0.size)
  have hwv : w.heap.size ≤ w1.heap.size := by omega
  clear b2 i2 hPl
  go_upto_region 3 with fail
  obtain ⟨Y, hY⟩ : ∃ Y, w2.heap.size = Y := ⟨_, rfl⟩
  obtain ⟨V, hV⟩ : ∃ V, V = w2.alloc (.cells #[.int .i64 st, .slice av l.length cv] 25) := ⟨_, rfl⟩
  have A0 : At V Y [.int .i64 st, .slice av l.length cv] := by rw [hV]; exact At.new _ _ _ hY.symm rfl
  have bV : Below w2.heap.size w2 V := by rw [hV]; exact (by repeat (first | with_reducible assumption | exact Below.refl _ _ | refine below_drewN ?_ _ | refine Below.drew ?_ | refine Below.alloc ?_ (by first | omega | (simp; done) | (simp; omega)) _ | refine Below.setCell ?_ (by first | omega | (simp; done) | (simp; omega)) _))
  rw [hY, ← hV]
  have hXY := F0.lt
  rw [hY] at hXY
  replace F0 := F0.below bV
  replace HT := Lib.hid (fun j (hj : j < ws.length) => (bV.cell (p := ⟨P, j, none⟩) hPl2).trans (HT.out j hj))
  replace m0 := (bV.cell (p := ⟨P, 0, none⟩) hPl2).trans m0
  replace b0 := b0.trans (bV.mono b0.size)
  have hov : ∀ k, (Value.slice av l.length cv).ownBlock = some k → w1.heap.size ≤ k ∧ k < Y := fun k hk => by have := ov.lt hk; omega
  replace ov := ov.below bV
  have hPY : P < Y := by omega
  clear bV hV hY hPl2
  obtain ⟨r, r0, r1, r2, r3, rf⟩ := id F0.facts4
  by_cases hgood : sb = true ∧ 2 ≤ N
  case neg =>
    have fin := fun (h : rdBk s = ((⟨zeroSv, [], []⟩, 0), false)) => show RkOut (rdBk s) w _ _ by rw [h]; exact rkOut_no (X := X) (by omega) b0
    have FIN := Lib.hid fin
    clear fin
    cases sb with
    | false =>
      have FIN2 := Lib.hid (FIN.out (HN.out rfl))
      clear FIN HN HY HF
      go_wp2_with fail
      exact bodyPost_ret (v := .tuple #[.agg #[.int .i64 0, .slice none 0 0, .slice none 0 0, .slice none 0 0], .int .i64 0, .bool false]) (by simp [results, Tryz.results13, go_sem, r, r0, r1, r2, r3]) rfl FIN2.out
    | true =>
      have hN2 : N < 2 := by
        apply Nat.lt_of_not_le
        intro h
        exact hgood ⟨rfl, h⟩
      have FIN2 := Lib.hid (FIN.out (HF.out (by rw [← HL.out]; exact hN2)))
      clear FIN HN HY HF hgood
      go_wp2_with fail
      exact bodyPost_ret (v := .tuple #[.agg #[.int .i64 0, .slice none 0 0, .slice none 0 0, .slice none 0 0], .int .i64 0, .bool false]) (by simp [results, Tryz.results13, go_sem, r, r0, r1, r2, r3]) rfl FIN2.out
  case pos =>
    obtain ⟨rfl, hN2⟩ := hgood
    replace HY := Lib.hid (HY.out rfl (by rw [← HL.out]; exact hN2))
    clear HN HF
    obtain ⟨y, y0, y1, -⟩ := id A0.facts2
    go_upto_region 6 with fail
    obtain ⟨Z, hZ⟩ : ∃ Z, V.heap.size = Z := ⟨_, rfl⟩
    obtain ⟨V2, hV2⟩ : ∃ V2, V2 = V.alloc (.cells #[.int .i64 st, .slice av l.length cv, .slice none 0 0, .slice none 0 0] 28) := ⟨_, rfl⟩
    have Z0 : At V2 Z [.int .i64 st, .slice av l.length cv, .slice none ([] : List Dd).length 0, .slice none 0 0] := by rw [hV2]; exact At.new _ _ _ hZ.symm rfl
    have bV : Below V.heap.size V V2 := by rw [hV2]; exact (by repeat (first | with_reducible assumption | exact Below.refl _ _ | refine below_drewN ?_ _ | refine Below.drew ?_ | refine Below.alloc ?_ (by first | omega | (simp; done) | (simp; omega)) _ | refine Below.setCell ?_ (by first | omega | (simp; done) | (simp; omega)) _))
    rw [hZ, ← hV2]
    rw [hZ] at y
    have hPZ : P < V.heap.size := by omega
    replace F0 := F0.below bV
    replace A0 := A0.below bV
    replace HT := Lib.hid (fun j (hj : j < ws.length) => (bV.cell (p := ⟨P, j, none⟩) hPZ).trans (HT.out j hj))
    replace m0 := (bV.cell (p := ⟨P, 0, none⟩) hPZ).trans m0
    replace b0 := b0.trans (bV.mono b0.size)
    replace ov := ov.below bV
    clear bV hV2 hZ hPZ y0 y1 r r0 r1 r2 r3 rf
    obtain ⟨-, y0, y1, -⟩ := id A0.facts2
    have hk2 := ov.kr
    go_wp2_with fail
    refine (l7Survey_any av cv st l V2 hll hk2).mono ?_
    rintro e w3 ⟨v, rfl, on, b3⟩
    obtain ⟨an, cn, rfl⟩ := on.sl
    simp only at on ⊢
    obtain ⟨T, hTT⟩ : ∃ T, w3.heap.size = T := ⟨_, rfl⟩
    obtain ⟨V4, hV4⟩ : ∃ V4, V4 = w3.alloc (.cells #[.int .i64 st, .slice an l.length cn] 25) := ⟨_, rfl⟩
    have T0 : At V4 T [.int .i64 st, .slice an l.length cn] := by rw [hV4]; exact At.new _ _ _ hTT.symm rfl
    have b4 : Below w3.heap.size w3 V4 := by rw [hV4]; exact (by repeat (first | with_reducible assumption | exact Below.refl _ _ | refine below_drewN ?_ _ | refine Below.drew ?_ | refine Below.alloc ?_ (by first | omega | (simp; done) | (simp; omega)) _ | refine Below.setCell ?_ (by first | omega | (simp; done) | (simp; omega)) _))
    obtain ⟨B, hB⟩ : ∃ B, V4.heap.size = B := ⟨_, rfl⟩
    have hTB : T < B := by have := T0.lt; omega
    have hZ2 := Z0.lt
    have hz3 := b3.size
    have ST : BkSt w X Z T B st av cv l [] none 0 st an cn l V4 := by
      have b34 := b3.trans (b4.mono b3.size)
      refine ⟨F0.below b34, Z0.below b34, T0, (ov.below b34).mono (by omega), KOwn.nil, (on.below b4).mono (by omega), fun k hk => ?_, fun k hk => ?_, by omega, by omega, by omega, hTB, by omega, b0.trans (b34.mono b0.size)⟩
      · have := hov k hk
        exact ⟨by omega, by omega, by omega, by omega⟩
      · have := on.lt hk
        exact ⟨by omega, by omega, by omega, fun e => by cases e⟩
    replace HT := Lib.hid (fun j (hj : j < ws.length) => ((b3.trans (b4.mono b3.size)).cell (p := ⟨P, j, none⟩) (by show P < V2.heap.size; omega)).trans (HT.out j hj))
    have hPB : P < B := by omega
    have hPn : P ≠ X ∧ P ≠ Z ∧ P ≠ T := by omega
    go_upto_region 9 with fail
    try rw [hTT]
    rw [← hV4]
    clear F0 A0 m0 b0 ov y0 y1 hk2 b3 on hTT hV4 T0 b4 hB hZ2 hz3 Z0 hov
    go_loopw [9, 11] (fun n k wr => ∃ (ds : List Dd) (nb : Nat) (nst : Int) (nl : List Lg) (an : Option Addr) (cn : Nat) (ad : Option Addr) (cd : Nat), ds.length ≤ 40 ∧ ds.length + 2 ≤ N ∧ k = .int .i64 ((ds.length : Int) + 1) ∧ n = .int .i64 ((t0.size + 1 + nb : Nat) : Int) ∧ nb ≤ ds.length * 1048577 ∧ Hid (Rding ⟨st, l⟩ ws.tail.dropLast ds nb ⟨nst, nl⟩) ∧ nl.length ≤ 1048576 ∧ BkSt w X Z T B st av cv l ds ad cd nst an cn nl wr ∧ Hid (∀ j, j < ws.length → wr.cell? ⟨P, j, none⟩ = some (.string (nth ws j)))) (fun _ k _ => N - (intOf k).toNat)
    case atStart => exact ⟨[], 0, st, l, an, cn, none, 0, by simp, by simpa using hN2, by simp, by simp, by omega, Lib.hid (Rding.start _ _), hll, ST, HT⟩
    case round =>
      clear HT ST
      obtain ⟨ds, nb, nst, nl, an, cn, ad, cd, h40, hdN, rfl, rfl, hnb, HR, hnl, ST, HT⟩ := hrel
      obtain ⟨q, hq⟩ : ∃ q, q = ds.length := ⟨_, rfl⟩
      obtain ⟨zl, zl0, zl1, zl2, zl3, zlf⟩ := id ST.z.facts4
      by_cases hgo : ds.length + 2 < N ∧ ds.length < 40
      · obtain ⟨hd2, hd40⟩ := hgo
        have hq1 : (ds.length : Int) + 1 + 1 < N := by omega
        have hq2 : (ds.length : Int) < 40 := by omega
        have hq3 : (ds.length : Int) + 1 < N := by omega
        have m1 := HT.out (ds.length + 1) (by rw [← HL.out]; omega)
        have z1 := HS.out (ds.length + 1) (by rw [← HL.out]; omega)
        have i4 := fun W => sreadDeed_any (nth ws (ds.length + 1)) W z1
        have HE := Lib.hid (show nth ws.tail.dropLast ds.length = nth ws (ds.length + 1) from tail_drop_nth (by rw [← HL.out]; exact hd2))
        have HLN := Lib.hid (show ds.length < ws.tail.dropLast.length by rw [List.length_dropLast, List.length_tail, ← HL.out]; omega)
        obtain ⟨⟨d, ok⟩, hd⟩ : ∃ p, rdDdD (nth ws (ds.length + 1)) = p := ⟨_, rfl⟩
        obtain ⟨⟨⟨tst, tl⟩, ok2⟩, hd2'⟩ : ∃ p, ddDo ⟨nst, nl⟩ d = p := ⟨_, rfl⟩
        have hcap := ST.on.capsT
        have i5 := fun W h => sdeedDo_any an cn nst nl d W hnl hcap.1 hcap.2.1 hcap.2.2 h
        rw [hd] at i4
        rw [hd2'] at i5
        have htl : tl.length ≤ 1048576 := by
          have := ddDo_len ⟨nst, nl⟩ d
          rw [hd2'] at this
          simp only at this
          omega
        have HNX := Lib.hid (fun (h1 : ok = true) (h2 : ok2 = true) => HR.out.next hd40 HLN.out (d := d) (s := ⟨tst, tl⟩) (by rw [HE.out, hd, h1]) (by rw [hd2', h2]))
        have HSTOP := Lib.hid (fun (h : ¬ (ok = true ∧ ok2 = true)) => show rdBk s = ((⟨⟨st, l⟩, ds, []⟩, t0.size + 1 + nb), true) from HY.out ds nb (HR.out.bad HLN.out (by rw [HE.out, hd]; simp only; rw [hd2']; exact h)))
        rw [HE.out] at HNX
        clear HR HE HLN hd hd2' hcap hnl
        obtain ⟨kd, ix, ⟨x1, x2, x3, x4, x5⟩⟩ := d
        obtain ⟨lt, hlt⟩ : ∃ x, nth ws (ds.length + 1) = x := ⟨_, rfl⟩
        rw [hlt] at m1 z1 i4 HNX
        simp only [Dd.val] at i5
        go_wp2_with fail
        refine (i4 _).mono ?_
        rintro e W5 ⟨rfl, b5⟩
        have ST5 := ST.below b5
        have HT5 := Lib.hid (fun j (hj : j < ws.length) => (b5.cell (p := ⟨P, j, none⟩) (by show P < wr.heap.size; have := ST.b; omega)).trans (HT.out j hj))
        simp only
        clear ST HT b5 m1 i4 zl zl0 zl1 zl2 zl3 zlf
        go_upto_region 12 with fail
        obtain ⟨D, hD⟩ : ∃ D, W5.heap.size = D := ⟨_, rfl⟩
        obtain ⟨V6, hV6⟩ : ∃ V6, V6 = W5.alloc (.cells #[.int .i64 kd, .int .i64 ix, .int .i64 x1, .int .i64 x2, .int .i64 x3, .int .i64 x4, .int .i64 x5] 47) := ⟨_, rfl⟩
        have D6 : At V6 D [.int .i64 kd, .int .i64 ix, .int .i64 x1, .int .i64 x2, .int .i64 x3, .int .i64 x4, .int .i64 x5] := by rw [hV6]; exact At.new _ _ _ hD.symm rfl
        have b6 : Below W5.heap.size W5 V6 := by rw [hV6]; exact (by repeat (first | with_reducible assumption | exact Below.refl _ _ | refine below_drewN ?_ _ | refine Below.drew ?_ | refine Below.alloc ?_ (by first | omega | (simp; done) | (simp; omega)) _ | refine Below.setCell ?_ (by first | omega | (simp; done) | (simp; omega)) _))
        try rw [hD]
        rw [← hV6]
        have ST6 := ST5.below b6
        have hPW : P < W5.heap.size := by have := ST5.b; omega
        have HT6 := Lib.hid (fun j (hj : j < ws.length) => (b6.cell (p := ⟨P, j, none⟩) hPW).trans (HT5.out j hj))
        have hBD : B ≤ D := by have := ST5.b; omega
        clear ST5 HT5 b6 hV6 hD hPW
        obtain ⟨d6, d60, d61, d62, d63, d64, d65, d66, -⟩ := id D6.facts7
        obtain ⟨t6, t60, t61, -⟩ := id ST6.t.facts2
        have i6 := i5 V6 ST6.on.kr
        clear i5
        go_wp2_with fail
        refine i6.mono ?_
        rintro e w7 ⟨v, rfl, on, b7⟩
        obtain ⟨az, cz, rfl⟩ := on.sl
        simp only at on ⊢
        have ST7 := ST6.below b7
        have D7 := D6.below b7
        have hPW : P < V6.heap.size := by omega
        have HT7 := Lib.hid (fun j (hj : j < ws.length) => (b7.cell (p := ⟨P, j, none⟩) hPW).trans (HT6.out j hj))
        have hB1 := ST6.b
        have hdl : ∀ k, (Value.slice ad ds.length cd).ownBlock = some k → k < V6.heap.size := fun k hk => (ST6.od.lt hk).2
        clear ST6 D6 HT6 d60 d61 d62 d63 d64 d65 d66 t6 t60 t61 i6
        go_upto_region 13 with fail
        obtain ⟨E, hE⟩ : ∃ E, w7.heap.size = E := ⟨_, rfl⟩
        obtain ⟨V8, hV8⟩ : ∃ V8, V8 = w7.alloc (.cells #[.int .i64 tst, .slice az tl.length cz] 25) := ⟨_, rfl⟩
        have E8 : At V8 E [.int .i64 tst, .slice az tl.length cz] := by rw [hV8]; exact At.new _ _ _ hE.symm rfl
        have b8 : Below w7.heap.size w7 V8 := by rw [hV8]; exact (by repeat (first | with_reducible assumption | exact Below.refl _ _ | refine below_drewN ?_ _ | refine Below.drew ?_ | refine Below.alloc ?_ (by first | omega | (simp; done) | (simp; omega)) _ | refine Below.setCell ?_ (by first | omega | (simp; done) | (simp; omega)) _))
        try rw [hE]
        rw [← hV8]
        have hz7 := b7.size
        have ST8 := ST7.below b8
        have D8 := D7.below b8
        have on8 := on.below b8
        have HT8 := Lib.hid (fun j (hj : j < ws.length) => (b8.cell (p := ⟨P, j, none⟩) (by show P < w7.heap.size; omega)).trans (HT7.out j hj))
        clear ST7 D7 on HT7 b8 b7 hV8 hE
        by_cases hboth : ok = true ∧ ok2 = true
        case neg =>
          have HD := Lib.hid (HSTOP.out hboth)
          have FIN := Lib.hid (ST8.done (t0.size + 1 + nb))
          rw [← HD.out] at FIN
          clear HY HNX HSTOP HD
          obtain ⟨r, r0, r1, r2, r3, rf⟩ := id ST8.x.facts4
          obtain ⟨zl, zl0, zl1, zl2, zl3, zlf⟩ := id ST8.z.facts4
          cases ok with
          | false =>
            clear hboth
            go_wp2_with fail
            exact bodyPost_ret (v := .tuple #[.agg #[.int .i64 st, .slice av l.length cv, .slice ad ds.length cd, .slice none 0 0], .int .i64 ((t0.size + 1 + nb : Nat) : Int), .bool true]) (by simp [results, Tryz.results13, go_sem, r, r0, r1, r2, r3]) rfl FIN.out
          | true =>
            cases ok2 with
            | true => exact absurd ⟨rfl, rfl⟩ hboth
            | false =>
              clear hboth
              go_wp2_with fail
              exact bodyPost_ret (v := .tuple #[.agg #[.int .i64 st, .slice av l.length cv, .slice ad ds.length cd, .slice none 0 0], .int .i64 ((t0.size + 1 + nb : Nat) : Int), .bool true]) (by simp [results, Tryz.results13, go_sem, r, r0, r1, r2, r3]) rfl FIN.out
        case pos =>
          obtain ⟨rfl, rfl⟩ := hboth
          have HN2 := Lib.hid (HNX.out rfl rfl)
          clear HNX HSTOP
          obtain ⟨t8, t80, t81, tf⟩ := id ST8.t.facts2
          obtain ⟨g8, g80, g81, -⟩ := id E8.facts2
          go_upto_region 16 with fail
          have ST9 := ST8.put (nst' := tst) (an' := az) (cn' := cz) (nl' := tl) hB1 on8 hdl
          have hTD : D ≠ T := by omega
          have D9 := (D8.setOther (p := ⟨T, 0, none⟩) hTD (.int .i64 tst)).setOther (p := ⟨T, 1, none⟩) hTD (.slice az tl.length cz)
          have HT9 := Lib.hid (fun j (hj : j < ws.length) => show ((V8.setCell ⟨T, 0, none⟩ (.int .i64 tst)).setCell ⟨T, 1, none⟩ (.slice az tl.length cz)).cell? ⟨P, j, none⟩ = some (.string (nth ws j)) by
            rw [World.cell?_setCell_other _ _ _ _ (by intro e; injection e with e _; omega), World.cell?_setCell_other _ _ _ _ (by intro e; injection e with e _; omega)]
            exact HT8.out j hj)
          obtain ⟨V9, hV9⟩ : ∃ V9, V9 = (V8.setCell ⟨T, 0, none⟩ (.int .i64 tst)).setCell ⟨T, 1, none⟩ (.slice az tl.length cz) := ⟨_, rfl⟩
          rw [← hV9] at ST9 D9 HT9 ⊢
          clear hV9 ST8 D8 HT8 on8 E8 t8 t80 t81 tf g8 g80 g81 hdl hB1
          obtain ⟨zl, zl0, zl1, zl2, zl3, zlf⟩ := id ST9.z.facts4
          obtain ⟨d9, d90, d91, d92, d93, d94, d95, d96, -⟩ := id D9.facts7
          have hz9 := ST9.b
          have hdl2 : ds.length ≤ 2097160 := by omega
          have hZB : Z < B := by have := ST9.zt; omega
          have m1 := HT9.out (ds.length + 1) (by rw [← HL.out]; omega)
          rw [hlt] at m1
          go_wp2_with (at_builtin; refine wpList_kApp ddI _ _ rfl rfl B (.slice ad ds.length cd) ds [⟨kd, ix, ⟨x1, x2, x3, x4, x5⟩⟩] (some ⟨V9.heap.size, 0, none⟩) 1 rfl (ST9.alloc _).od rfl (ddHereT _ _ _) hdl2 (by simp) (by simp; omega) ?_; rintro av9 cv9 w9 o9 g9 b9 r9; have b9' := ((Below.refl B V9).alloc hz9 _).trans b9; have c9 := (b9'.cell (p := ⟨Z, 2, none⟩) hZB).trans zl2; have f9 := (b9'.frozen (p := ⟨Z, 2, none⟩) hZB).trans (zlf 2); have c5 := (b9'.cell (p := ⟨P, ds.length + 1, none⟩) hPB).trans m1; clear zl zl0 zl1 zl2 zl3 zlf d9 d90 d91 d92 d93 d94 d95 d96 m1)
          have HF := (ST9.alloc _).more b9 g9 o9 (fun k e => by
            rcases r9 with h | h
            · exact .inl (h ▸ e)
            · rw [h] at e; cases e; exact .inr (Nat.le_refl _))
          have HTF := Lib.hid (fun j (hj : j < ws.length) => show (w9.setCell ⟨Z, 2, none⟩ (.slice av9 (ds.length + 1) cv9)).cell? ⟨P, j, none⟩ = some (.string (nth ws j)) by
            rw [World.cell?_setCell_other _ _ _ _ (by intro e; injection e with e _; omega)]
            exact (b9'.cell (p := ⟨P, j, none⟩) hPB).trans (HT9.out j hj))
          simp only [List.length_append, List.length_cons, List.length_nil, Nat.zero_add] at HF
          go_roundw
          case rel => exact ⟨ds ++ [⟨kd, ix, ⟨x1, x2, x3, x4, x5⟩⟩], nb + lt.size + 1, tst, tl, az, cz, av9, cv9, by simp; omega, by simp; omega, by simp, by simp; omega, by simp; omega, HN2, htl, HF, HTF⟩
          case measure => simp [intOf]; omega
      · have HD := Lib.hid (show rdBk s = ((⟨⟨st, l⟩, ds, []⟩, t0.size + 1 + nb), true) from HY.out ds nb (by
          by_cases h1 : ds.length < 40
          · exact HR.out.out (by rw [List.length_dropLast, List.length_tail, ← HL.out]; omega)
          · exact HR.out.full (by omega)))
        have FIN := Lib.hid (ST.done (t0.size + 1 + nb))
        rw [← HD.out] at FIN
        clear HY HR HD
        obtain ⟨r, r0, r1, r2, r3, rf⟩ := id ST.x.facts4
        by_cases h1 : ds.length + 2 < N
        · have h2 : ¬ (ds.length : Int) < 40 := by omega
          go_wp2_with fail
          exact bodyPost_ret (v := .tuple #[.agg #[.int .i64 st, .slice av l.length cv, .slice ad ds.length cd, .slice none 0 0], .int .i64 ((t0.size + 1 + nb : Nat) : Int), .bool true]) (by simp [results, Tryz.results13, go_sem, r, r0, r1, r2, r3]) rfl FIN.out
        · have h2 : ¬ (ds.length : Int) + 1 + 1 < N := by omega
          go_wp2_with fail
          exact bodyPost_ret (v := .tuple #[.agg #[.int .i64 st, .slice av l.length cv, .slice ad ds.length cd, .slice none 0 0], .int .i64 ((t0.size + 1 + nb : Nat) : Int), .bool true]) (by simp [results, Tryz.results13, go_sem, r, r0, r1, r2, r3]) rfl FIN.out
end Go.Proofs.YtcilgpmeliegoaaGreatDoor
