/- Walks: impl.DeedBack, spec.DeedBack whole. -/
import Derived.Test.YtgggbapcpjfljaaG15
namespace Go.Proofs.Ytgggbapcpjfljaa
open Go Go.RowKit Go.Sort

theorem ddBack_no {s : Sv} {d : Dd} (h : (ddDo s d).2 = false) : ddBack s d = (noDd, false) := by simp [ddBack, h]

theorem deedBack_any (a : Option Addr) (c : Nat) (st : Int) (l : List Lg) (d : Dd) (w : World) (hl : l.length ≤ 1048576) (hs : Legs w a l) :
    Calls Try.prog 15 #[.agg #[.int .i64 st, .slice a l.length c], d.val] w (DdOut (ddBack ⟨st, l⟩ d) w) := by
  obtain ⟨kd, ix, g⟩ := d
  cases h2 : (ddDo ⟨st, l⟩ ⟨kd, ix, g⟩).2
  · rw [ddBack_no h2]
    exact back_no a c st l kd ix g w hl hs h2
  obtain ⟨hv, ht, hk⟩ := ddDo_ok h2
  obtain ⟨v1, v2, v3, v4⟩ := svOk_iff.1 hv
  simp only at v3
  unfold ddBack
  rw [if_pos h2]
  rcases ddTry_some ht with ⟨k, -⟩ | ⟨k, h3, h4, -⟩ | ⟨k, -⟩ | ⟨k, h3, h4, -⟩ | ⟨k, h3, -⟩ | ⟨k, h3, -⟩ <;> simp only at k <;> subst k
  · exact back0 a c st l ix g w hl hs h2
  · simp only at h3 h4
    obtain ⟨i, rfl⟩ : ∃ i : Nat, ix = (i : Int) := ⟨ix.toNat, by omega⟩
    exact back1 a c st l i (by omega) g w hl hs h2 v3
  · exact back2 a c st l ix g w hl hs h2
  · simp only at h3 h4
    obtain ⟨i, rfl⟩ : ∃ i : Nat, ix = (i : Int) := ⟨ix.toNat, by omega⟩
    exact back3 a c st l i (by omega) g w hl hs h2 v3
  · exact back4 a c st l ix g w hl hs h2
  · exact back5 a c st l ix g w hl hs h2

theorem sdeedBack_any (a : Option Addr) (c : Nat) (st : Int) (l : List Lg) (d : Dd) (w : World) (hl : l.length ≤ 1048576) (hlc : l.length ≤ c) (hc63 : c ≤ 9223372036854775807) (ha : ∀ ad, a = some ad → ad.spot = none) (hs : Legs w a l) :
    Calls Try.prog 12 #[.agg #[.int .i64 st, .slice a l.length c], d.val] w (DdOut (ddBack ⟨st, l⟩ d) w) := by
  obtain ⟨kd, ix, g⟩ := d
  cases h2 : (ddDo ⟨st, l⟩ ⟨kd, ix, g⟩).2
  · rw [ddBack_no h2]
    exact sback_no a c st l kd ix g w hl hlc hc63 ha hs h2
  obtain ⟨hv, ht, hk⟩ := ddDo_ok h2
  obtain ⟨v1, v2, v3, v4⟩ := svOk_iff.1 hv
  simp only at v3
  unfold ddBack
  rw [if_pos h2]
  rcases ddTry_some ht with ⟨k, -⟩ | ⟨k, h3, h4, -⟩ | ⟨k, -⟩ | ⟨k, h3, h4, -⟩ | ⟨k, h3, -⟩ | ⟨k, h3, -⟩ <;> simp only at k <;> subst k
  · exact sback0 a c st l ix g w hl hlc hc63 ha hs h2
  · simp only at h3 h4
    obtain ⟨i, rfl⟩ : ∃ i : Nat, ix = (i : Int) := ⟨ix.toNat, by omega⟩
    exact sback1 a c st l i (by omega) g w hl hlc hc63 ha hs h2 v3
  · exact sback2 a c st l ix g w hl hlc hc63 ha hs h2
  · simp only at h3 h4
    obtain ⟨i, rfl⟩ : ∃ i : Nat, ix = (i : Int) := ⟨ix.toNat, by omega⟩
    exact sback3 a c st l i (by omega) g w hl hlc hc63 ha hs h2 v3
  · exact sback4 a c st l ix g w hl hlc hc63 ha hs h2
  · exact sback5 a c st l ix g w hl hlc hc63 ha hs h2
end Go.Proofs.Ytgggbapcpjfljaa
