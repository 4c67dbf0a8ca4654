/- Walk: impl.reachedFrom. -/
import Derived.Test.YtnjpifaphmeepaaDoorW6
import Derived.Test.YtnjpifaphmeepaaDoorBfs
import Derived.Test.YtnjpifaphmeepaaDoorQue
import Derived.Deep.LoopGhost
namespace Go.Proofs.YtnjpifaphmeepaaDoor
open Go Go.RowKit

def toInts (l : List Nat) : List Int := l.map fun i : Nat => (i : Int)
theorem toInts_len (l : List Nat) : (toInts l).length = l.length := by simp [toInts]

theorem slice1 (g off cap n : Nat) (hc : n + 1 ≤ cap) (w : World) : (Instr.slice 26 (.slice (some ⟨g, off, none⟩) (n + 1) cap) (some (.int .i64 1)) none none).run Tryd.prog w =
    .ok (.slice (some ⟨g, if cap = 1 then off else off + 1, none⟩) n (cap - 1)) w := by
  by_cases e : cap = 1 <;> simp [go_sem, sliced, e] <;> intro h <;> omega

set_option maxHeartbeats 1000000 in
theorem reachedFrom_any (b0 N s : Nat) (M : Nat → Nat → Int) (w : World) (hN : N ≤ 16) (hs : s < N) (hm : MatAt w b0 N M) (hb0 : b0 + N < w.heap.size) :
    Calls Tryd.prog 78 #[.slice (some ⟨b0, 0, none⟩) N N, .int .i64 s] w fun e w' => ∃ f, e = .returned (.slice (some ⟨w.heap.size, 0, none⟩) N N) ∧ OwnI w' w.heap.size N f ∧ Bfs N s M f ∧ Below w.heap.size w w' := by
  go_enter Tryd.func78, Tryd.ntmps78
  go_wp2_with fail
  refine (noTimes_any N w (by omega)).mono ?_
  rintro e w1 ⟨rfl, o1, b1⟩
  have q1 := o1.cell hs
  have q2 := o1.frozen s
  go_wp2_with fail
  have z1 := o1.lt
  go_loopg [6] (N + 1) (fun gk v wr => ∃ (f : Nat → Int) (ord : List Nat) (p g off cap : Nat), v = .slice (some ⟨g, off, none⟩) (toInts (ord.drop p)).length cap ∧ Que wr g off cap (toInts (ord.drop p)) ∧
    BInv N s M f ord p ∧ p ≤ ord.length ∧ gk + p = N + 1 ∧ OwnI wr w.heap.size N f ∧ w.heap.size < g ∧ Below w.heap.size w wr)
  case atStart =>
    refine ⟨upd (fun _ => -1) s s, [s], 0, w1.heap.size, 0, 1, rfl, ?_, BInv.first hs, by simp, by omega, ?_, z1, (by repeat (first | with_reducible assumption | exact Below.refl _ _ | refine below_drewN ?_ _ | refine Below.drew ?_ | refine Below.alloc ?_ (by first | omega | (simp; done) | (simp; omega)) _ | refine Below.setCell ?_ (by first | omega | (simp; done) | (simp; omega)) _))⟩
    · have := Que.one (w1.setCell ⟨w.heap.size, s, none⟩ (.int .i64 s)) s
      simpa [World.setCell, toInts] using this
    · exact (OwnI.set o1 s s).alloc _
  case round =>
    obtain ⟨f, ord, p, g, off, cap, rfl, hq, hB, hp, hgk, ho, hg, hb⟩ := hrel
    have hlen := hB.len
    by_cases hlt : p < ord.length
    · obtain ⟨u, hu⟩ : ∃ u, u = nth ord p := ⟨_, rfl⟩
      have hd := drop_nth hlt
      rw [← hu] at hd
      have hge : ord[p]? = some u := by rw [getElem?_nth hlt, hu]
      have huN : u < N := hB.lt u (List.mem_of_getElem? hge)
      have ht : toInts (ord.drop p) = (u : Int) :: toInts (ord.drop (p + 1)) := by rw [hd]; rfl
      have hl : (toInts (ord.drop (p + 1))).length ≤ 16 := by rw [toInts_len]; simp; omega
      clear hu
      have HD := Lib.hid hd
      have HT := Lib.hid ht
      rw [ht] at hq ⊢
      have HGE := Lib.hid hge
      clear hd ht hge
      have c1 := hq.cell (j := 0) (by simp)
      have hcap : (toInts (ord.drop (p + 1))).length + 1 ≤ cap := by have := hq.1; simpa using this
      have hq2 := hq.pop
      have hsl := slice1 g off cap (toInts (ord.drop (p + 1))).length hcap
      generalize (if cap = 1 then off else off + 1) = off2 at hq2 hsl
      have r1 := rowIs_of_below hm.1 hb (by omega)
      have d1 := r1.cell huN
      simp only [List.length_cons, Nat.add_zero, nth, List.getD_cons_zero] at c1 ⊢
      clear hq r1
      generalize hn : (toInts (List.drop (p + 1) ord)).length = n at *
      have HNL := Lib.hid hn
      clear hn
      go_wp2_with fail
      clear hsl c1 d1
      go_loopw [6, 32] (fun v jj wi => ∃ (k : Nat) (f : Nat → Int) (ord' : List Nat) (g off cap : Nat), k ≤ N ∧ jj = .int .i64 k ∧ v = .slice (some ⟨g, off, none⟩) (toInts (ord'.drop (p + 1))).length cap ∧ Que wi g off cap (toInts (ord'.drop (p + 1))) ∧ BInv N s M f ord' p ∧ p < ord'.length ∧ Hid (ord'[p]? = some u) ∧ (∀ x, x < k → 0 < M u x → x ∈ ord') ∧ OwnI wi w.heap.size N f ∧ w.heap.size < g ∧ Below w.heap.size w wi) (fun _ jj _ => N - (intOf jj).toNat)
      case atStart => exact ⟨0, f, ord, g, off2, cap - 1, by omega, rfl, by rw [HNL.out], hq2, hB, hlt, HGE, fun x hx => by omega, ho, hg, hb⟩
      case round =>
        obtain ⟨k, f, ord', g, off, cap, hk, rfl, rfl, hq, hB, hp', HGE, hscan, ho, hg, hb⟩ := hrel
        have hlen := hB.len
        by_cases hlt2 : k < N
        · have r2 := rowIs_of_below (hm.2 u huN) hb (by omega)
          have d2 := r2.cell hlt2
          have c2 := ho.cell hlt2
          have c3 := ho.frozen k
          have hz := hq.lt
          have hz2 := ho.lt
          obtain ⟨hf1, hf2⟩ := hB.rng k hlt2
          clear r2
          by_cases hM : 0 < M u k
          · by_cases hf : f k < 0
            · have hB2 := hB.add HGE.out hlt2 hM hf
              have ho2 := OwnI.set ho k u
              have hq2 := (hq.other (a := ⟨w.heap.size, k, none⟩) (by show g ≠ w.heap.size; omega) (.int .i64 (u : Int))).alloc (.cells #[.int .i64 (k : Int)] 3)
              have hl2 : (toInts (ord'.drop (p + 1))).length ≤ 1048576 := by rw [toInts_len]; simp; omega
              go_wp2_with (at_builtin; refine appQue _ _ rfl rfl g off cap (toInts (ord'.drop (p + 1))) k _ _ rfl hq2 rfl (one_cell _ _ _ _ (by simp [World.setCell])) hl2 ?_; intro g' off' cap' w2 hq3 hg3 hb3 hk3)
              go_roundw
              case rel =>
                have e : toInts ((ord' ++ [k]).drop (p + 1)) = toInts (ord'.drop (p + 1)) ++ [(k : Int)] := by
                  rw [List.drop_append_of_le_length (by omega)]; simp [toInts]
                have hg4 : w.heap.size < g' := by
                  rcases hg3 with h | h
                  · omega
                  · simp [World.setCell] at h; omega
                refine ⟨k + 1, _, ord' ++ [k], g', off', cap', by omega, by go_num, by rw [e, List.length_append]; rfl, by rw [e]; exact hq3, hB2, by simp; omega, ?_, ?_, ?_, hg4, ?_⟩
                · show _ = _; rw [List.getElem?_append_left (by omega)]; exact HGE.out
                · exact scan_step (fun x hx hMx => List.mem_append_left _ (hscan x hx hMx)) fun _ => by simp
                · exact World.rowIs.of_block (ho2.alloc _) (hk3 _ (by omega) (by simp [World.setCell]; omega))
                · exact ((hb.setCell (Nat.le_refl _) _).alloc (by simp [World.setCell]; omega) _).trans (hb3 _ (by omega) (by simp [World.setCell]; omega))
              case measure => simp [intOf] <;> omega
            · have hfm := (hB.mem k hlt2).1 (by omega)
              go_wp2
              go_roundw
              case rel => exact ⟨k + 1, f, ord', g, off, cap, by omega, by go_num, rfl, hq, hB, hp', HGE, scan_step hscan fun _ => hfm, ho, hg, hb⟩
              case measure => simp [intOf] <;> omega
          · go_wp2
            go_roundw
            case rel => exact ⟨k + 1, f, ord', g, off, cap, by omega, by go_num, rfl, hq, hB, hp', HGE, scan_step hscan fun h => absurd h hM, ho, hg, hb⟩
            case measure => simp [intOf] <;> omega
        · go_wp2
          go_roundg (gk - 1)
          case rel => exact ⟨f, ord', p + 1, g, off, cap, rfl, hq, hB.next HGE.out fun x hx hMx => hscan x (by omega) hMx, by omega, by omega, ho, hg, hb⟩
          case measure => omega
    · have e : p = ord.length := by omega
      have hnil : toInts (ord.drop p) = [] := by rw [drop_end (by omega)]; rfl
      rw [hnil] at hq ⊢
      simp only [List.length_nil]
      go_wp2
      go_ret
      exact ⟨f, rfl, ho, hB.bfs (by omega), hb⟩
end Go.Proofs.YtnjpifaphmeepaaDoor
