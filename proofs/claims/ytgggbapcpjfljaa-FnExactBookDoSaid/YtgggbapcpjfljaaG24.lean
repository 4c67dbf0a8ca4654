/- Walks: BookNow; copies of books (the theorems are written by wip/bin/gen_g24.py). -/
import Derived.Test.YtgggbapcpjfljaaG23
namespace Go.Proofs.Ytgggbapcpjfljaa
open Go Go.RowKit Go.Sort

theorem bkNow_bad {b : Bk} (h : bkOk b = false) : bkNow b = zeroSv := by simp [bkNow, h]
theorem bkNow_ok {b : Bk} (h : bkOk b = true) : bkNow b = (ddRun b.first b.done).1 := by
  rw [ddRun_ok (bkOk_iff.1 h).1]; simp [bkNow, h]
theorem bkNow_len (b : Bk) : (bkNow b).legs.length ≤ 9 := by
  cases h : bkOk b
  · rw [bkNow_bad h]; exact Nat.zero_le _
  · rw [bkNow_ok h]; exact ddRun_len _ _

set_option maxHeartbeats 1000000 in
theorem bookNow_any (a1 a2 a3 : Option Addr) (c1 c2 c3 : Nat) (st : Int) (l : List Lg) (d u : List Dd) (w : World) (hl : l.length ≤ 1048576) (hd : d.length ≤ 1048576) (hu : u.length ≤ 1048576) (hs : RdB w a1 a2 a3 ⟨⟨st, l⟩, d, u⟩) :
    Calls Try.prog 34 #[.agg #[.int .i64 st, .slice a1 l.length c1, .slice a2 d.length c2, .slice a3 u.length c3]] w (SvRet (bkNow ⟨⟨st, l⟩, d, u⟩) w) := by
  obtain ⟨X, hX⟩ : ∃ X, w.heap.size = X := ⟨_, rfl⟩
  obtain ⟨W1, hW1⟩ : ∃ W1, W1 = (w.alloc (.cells #[.int .i64 st, .slice a1 l.length c1, .slice a2 d.length c2, .slice a3 u.length c3] 60)).alloc (.cells #[.int .i64 0, .slice none 0 0] 37) := ⟨_, rfl⟩
  have G : At W1 X [.int .i64 st, .slice a1 l.length c1, .slice a2 d.length c2, .slice a3 u.length c3] := by rw [hW1]; exact (At.new _ _ _ hX.symm rfl).alloc _
  have R : At W1 (X + 1) [.int .i64 0, .slice none 0 0] := by rw [hW1]; exact At.new _ _ _ (by simp [hX]) rfl
  have b0 : Below w.heap.size w W1 := by rw [hW1]; exact (by repeat (first | with_reducible assumption | exact Below.refl _ _ | refine below_drewN ?_ _ | refine Below.drew ?_ | refine Below.alloc ?_ (by first | omega | (simp; done) | (simp; omega)) _ | refine Below.setCell ?_ (by first | omega | (simp; done) | (simp; omega)) _))
  cases hv : bkOk ⟨⟨st, l⟩, d, u⟩
  · rw [bkNow_bad hv]
    go_enter Try.func34, Try.ntmps34
    go_wp2_with fail
    rw [← hW1]
    clear hW1
    refine (bookValid_any _ _ _ _ _ _ st l d u _ hl hd hu (hs.below b0)).mono ?_
    rintro e w1 ⟨rfl, k1⟩
    rw [hv]
    replace R := R.below k1
    replace b0 := b0.trans (k1.mono b0.size)
    clear k1 G
    obtain ⟨r0, r1, r2, r3⟩ := R.facts2
    go_wp2_with fail
    obtain ⟨f0, f1, f2, -⟩ := ((R.set 0 (.int .i64 0)).set 1 (.slice none 0 0)).facts2
    refine bodyPost_ret (v := .agg #[.int .i64 0, .slice none 0 0]) (by simp [results, Try.results34, go_sem, f1, f2]) rfl ⟨_, rfl, KOwn.nil, ?_⟩
    exact (b0.setCell (p := ⟨X + 1, 0, none⟩) (by show _ ≤ X + 1; omega) _).setCell (p := ⟨X + 1, 1, none⟩) (by show _ ≤ X + 1; omega) _
  · rw [bkNow_ok hv]
    show Calls Try.prog 34 _ w (SvRet (ddRun ⟨st, l⟩ d).1 w)
    have K := fun (w' : World) (h1 : Legs w' a1 l) (h2 : Dds w' a2 d) => deedsRun_any a1 c1 st l a2 c2 d w' hl hd h1 h2
    obtain ⟨⟨⟨rst, rl⟩, many⟩, hR⟩ : ∃ p, ddRun ⟨st, l⟩ d = p := ⟨_, rfl⟩
    rw [hR] at K ⊢
    have HK := Lib.hid K
    clear K hR
    go_enter Try.func34, Try.ntmps34
    go_wp2_with fail
    rw [← hW1]
    clear hW1
    refine (bookValid_any _ _ _ _ _ _ st l d u _ hl hd hu (hs.below b0)).mono ?_
    rintro e w1 ⟨rfl, k1⟩
    rw [hv]
    replace R := R.below k1
    replace G := G.below k1
    replace b0 := b0.trans (k1.mono b0.size)
    clear k1
    obtain ⟨s0, s1, s2, s3, s4, -⟩ := G.facts4
    go_wp2_with fail
    refine (HK.out _ (hs.l.below b0) (hs.d.below b0)).mono ?_
    rintro e w2 ⟨v2, rfl, o2, k2⟩
    obtain ⟨av2, cv2, rfl⟩ := o2.sl
    have hXw := R.lt
    replace R := R.below k2
    replace b0 := b0.trans (k2.mono b0.size)
    have hB : w.heap.size ≤ w1.heap.size := by omega
    simp only
    clear s0 s1 s2 s3 s4 k2 G
    obtain ⟨r0, r1, r2, r3⟩ := R.facts2
    go_wp2_with fail
    obtain ⟨f0, f1, f2, -⟩ := (((R.set 0 (.int .i64 rst)).set 1 (.slice av2 rl.length cv2)).alloc (.cells #[.int .i64 rst, .slice av2 rl.length cv2] 37)).facts2
    refine bodyPost_ret (v := .agg #[.int .i64 rst, .slice av2 rl.length cv2]) (by simp [results, Try.results34, go_sem, f1, f2]) rfl ⟨_, rfl, ?_, ?_⟩
    · exact (((o2.setCell (p := ⟨X + 1, 0, none⟩) (by show X + 1 < _; omega) _).setCell (p := ⟨X + 1, 1, none⟩) (by show X + 1 < _; omega) _).alloc _).mono hB
    · exact ((b0.setCell (p := ⟨X + 1, 0, none⟩) (by show _ ≤ X + 1; omega) _).setCell (p := ⟨X + 1, 1, none⟩) (by show _ ≤ X + 1; omega) _).alloc (by have := b0.size; simp [World.setCell]; omega) _

set_option maxHeartbeats 1000000 in
theorem sbookNow_any (a1 a2 a3 : Option Addr) (c1 c2 c3 : Nat) (st : Int) (l : List Lg) (d u : List Dd) (w : World) (hl : l.length ≤ 1048576) (hd : d.length ≤ 1048576) (hu : u.length ≤ 1048576) (hs : RdB w a1 a2 a3 ⟨⟨st, l⟩, d, u⟩) :
    Calls Try.prog 33 #[.agg #[.int .i64 st, .slice a1 l.length c1, .slice a2 d.length c2, .slice a3 u.length c3]] w (SvRet (bkNow ⟨⟨st, l⟩, d, u⟩) w) := by
  obtain ⟨X, hX⟩ : ∃ X, w.heap.size = X := ⟨_, rfl⟩
  obtain ⟨W1, hW1⟩ : ∃ W1, W1 = (w.alloc (.cells #[.int .i64 st, .slice a1 l.length c1, .slice a2 d.length c2, .slice a3 u.length c3] 60)).alloc (.cells #[.int .i64 0, .slice none 0 0] 37) := ⟨_, rfl⟩
  have G : At W1 X [.int .i64 st, .slice a1 l.length c1, .slice a2 d.length c2, .slice a3 u.length c3] := by rw [hW1]; exact (At.new _ _ _ hX.symm rfl).alloc _
  have R : At W1 (X + 1) [.int .i64 0, .slice none 0 0] := by rw [hW1]; exact At.new _ _ _ (by simp [hX]) rfl
  have b0 : Below w.heap.size w W1 := by rw [hW1]; exact (by repeat (first | with_reducible assumption | exact Below.refl _ _ | refine below_drewN ?_ _ | refine Below.drew ?_ | refine Below.alloc ?_ (by first | omega | (simp; done) | (simp; omega)) _ | refine Below.setCell ?_ (by first | omega | (simp; done) | (simp; omega)) _))
  cases hv : bkOk ⟨⟨st, l⟩, d, u⟩
  · rw [bkNow_bad hv]
    go_enter Try.func33, Try.ntmps33
    go_wp2_with fail
    rw [← hW1]
    clear hW1
    refine (sbookValid_any _ _ _ _ _ _ st l d u _ hl hd hu (hs.below b0)).mono ?_
    rintro e w1 ⟨rfl, k1⟩
    rw [hv]
    replace R := R.below k1
    replace b0 := b0.trans (k1.mono b0.size)
    clear k1 G
    obtain ⟨r0, r1, r2, r3⟩ := R.facts2
    go_wp2_with fail
    obtain ⟨f0, f1, f2, -⟩ := ((R.set 0 (.int .i64 0)).set 1 (.slice none 0 0)).facts2
    refine bodyPost_ret (v := .agg #[.int .i64 0, .slice none 0 0]) (by simp [results, Try.results33, go_sem, f1, f2]) rfl ⟨_, rfl, KOwn.nil, ?_⟩
    exact (b0.setCell (p := ⟨X + 1, 0, none⟩) (by show _ ≤ X + 1; omega) _).setCell (p := ⟨X + 1, 1, none⟩) (by show _ ≤ X + 1; omega) _
  · rw [bkNow_ok hv]
    show Calls Try.prog 33 _ w (SvRet (ddRun ⟨st, l⟩ d).1 w)
    have K := fun (w' : World) (h1 : Legs w' a1 l) (h2 : Dds w' a2 d) => sdeedsRun_any a1 c1 st l a2 c2 d w' hl hd h1 h2
    obtain ⟨⟨⟨rst, rl⟩, many⟩, hR⟩ : ∃ p, ddRun ⟨st, l⟩ d = p := ⟨_, rfl⟩
    rw [hR] at K ⊢
    have HK := Lib.hid K
    clear K hR
    go_enter Try.func33, Try.ntmps33
    go_wp2_with fail
    rw [← hW1]
    clear hW1
    refine (sbookValid_any _ _ _ _ _ _ st l d u _ hl hd hu (hs.below b0)).mono ?_
    rintro e w1 ⟨rfl, k1⟩
    rw [hv]
    replace R := R.below k1
    replace G := G.below k1
    replace b0 := b0.trans (k1.mono b0.size)
    clear k1
    obtain ⟨s0, s1, s2, s3, s4, -⟩ := G.facts4
    go_wp2_with fail
    refine (HK.out _ (hs.l.below b0) (hs.d.below b0)).mono ?_
    rintro e w2 ⟨v2, rfl, o2, k2⟩
    obtain ⟨av2, cv2, rfl⟩ := o2.sl
    have hXw := R.lt
    replace R := R.below k2
    replace b0 := b0.trans (k2.mono b0.size)
    have hB : w.heap.size ≤ w1.heap.size := by omega
    simp only
    clear s0 s1 s2 s3 s4 k2 G
    obtain ⟨r0, r1, r2, r3⟩ := R.facts2
    go_wp2_with fail
    obtain ⟨f0, f1, f2, -⟩ := (((R.set 0 (.int .i64 rst)).set 1 (.slice av2 rl.length cv2)).alloc (.cells #[.int .i64 rst, .slice av2 rl.length cv2] 37)).facts2
    refine bodyPost_ret (v := .agg #[.int .i64 rst, .slice av2 rl.length cv2]) (by simp [results, Try.results33, go_sem, f1, f2]) rfl ⟨_, rfl, ?_, ?_⟩
    · exact (((o2.setCell (p := ⟨X + 1, 0, none⟩) (by show X + 1 < _; omega) _).setCell (p := ⟨X + 1, 1, none⟩) (by show X + 1 < _; omega) _).alloc _).mono hB
    · exact ((b0.setCell (p := ⟨X + 1, 0, none⟩) (by show _ ≤ X + 1; omega) _).setCell (p := ⟨X + 1, 1, none⟩) (by show _ ≤ X + 1; omega) _).alloc (by have := b0.size; simp [World.setCell]; omega) _
end Go.Proofs.Ytgggbapcpjfljaa
