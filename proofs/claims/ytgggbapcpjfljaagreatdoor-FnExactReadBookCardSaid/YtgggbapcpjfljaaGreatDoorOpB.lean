/- Surveys, deeds and books among the laws' arguments, read as data, as the walks want them. No program. -/
import Derived.Test.YtgggbapcpjfljaaGreatDoorSvy
import Derived.ProofKit
import Derived.Deep.Slices
namespace Go.Proofs.YtgggbapcpjfljaaGreatDoor
open Go Go.RowKit Go.Deep Go.ChangeShapes Go.WideShapes Go.ChangeMaps

section
variable {H : Type} {enc : TypeId × Value → H} {P : Program} {w : World} {base fuel : Nat} {spare : Nat → Bool} {held : Bool}

theorem addr_cell {w : World} {x : Addr} {v : Value} (h : w.cell? (x.add 0) = some v) : x = ⟨x.block, x.off, none⟩ := by
  obtain ⟨b, o, s⟩ := x
  have : s = none := by simpa [Addr.add] using World.cell?_spot h
  subst this
  rfl

/-- fields that are ints, one behind the other -/
def IntFields (fs : Array Field) (q : TypeId) (k : Nat) : Prop := ∀ i, i < k → ∃ f, fs[i]? = some f ∧ f.offset = i ∧ f.type = q

theorem trod_intAt {q : TypeId} (hq : P.underlying q = some (.int .i64)) {cs : List Value} {i : Nat} {x : DataW H × List MemPlace} (h : DataW.trod enc P w base spare held fuel q ((cs.drop i).take 1) = some x) : ∃ z, cs[i]? = some (.int .i64 z) := by
  obtain ⟨z, e, _, _⟩ := DataW.trod_int hq h
  refine ⟨z, ?_⟩
  have h1 : ((cs.drop i).take 1)[0]? = some (.int .i64 z) := by rw [e]; rfl
  rw [List.getElem?_take_of_lt (by omega), List.getElem?_drop] at h1
  exact h1

theorem trod_ints {t q : TypeId} {fs : Array Field} {k : Nat} {cs : List Value} {x : DataW H × List MemPlace} (ht : P.underlying t = some (.struct fs)) (hC : P.cellsOf t = k) (hq : P.underlying q = some (.int .i64)) (cq : P.cellsOf q = 1)
    (hf : IntFields fs q k) (h : DataW.trod enc P w base spare held fuel t cs = some x) : cs.length = k ∧ ∃ F : Nat → Int, ∀ i, i < k → cs[i]? = some (.int .i64 (F i)) := by
  obtain ⟨xs, n, _, _, hlen, hxl, hg⟩ := DataW.trod_struct ht h
  have each : ∀ i, i < k → ∃ z : Int, cs[i]? = some (.int .i64 z) := fun i hi => by
    obtain ⟨f, hfi, ho, hty⟩ := hf i hi
    have h1 := hg i f hfi
    rw [ho, hty, cq] at h1
    have hi2 : i < xs.length := by rw [hxl]; exact (Array.getElem?_eq_some_iff.1 hfi).1
    rw [List.getElem?_eq_getElem hi2] at h1
    exact trod_intAt hq h1
  exact ⟨by rw [hlen, hC], choose_lt each⟩

/-- a kind's elements are read as cells of that kind -/
def KTrod (enc : TypeId × Value → H) (P : Program) (w : World) (base : Nat) (spare : Nat → Bool) (held : Bool) {α : Type} (K : Kind α) (e : TypeId) : Prop :=
  ∀ n cs x, DataW.trod enc P w base spare held n e cs = some x → ∃ a : α, cs = K.cells a

theorem list5 {cs : List Value} (hl : cs.length = 5) {F : Nat → Int} (h : ∀ i, i < 5 → cs[i]? = some (.int .i64 (F i))) : cs = legK.cells ⟨F 0, F 1, F 2, F 3, F 4⟩ := by
  match cs, hl with
  | [a, b, c, d, e], _ =>
    have h0 := h 0 (by omega); have h1 := h 1 (by omega); have h2 := h 2 (by omega); have h3 := h 3 (by omega); have h4 := h 4 (by omega)
    simp only [List.getElem?_cons_zero, List.getElem?_cons_succ, Option.some.injEq] at h0 h1 h2 h3 h4
    subst h0 h1 h2 h3 h4
    rfl

theorem trod_leg {t q : TypeId} {fs : Array Field} (ht : P.underlying t = some (.struct fs)) (hC : P.cellsOf t = 5) (hq : P.underlying q = some (.int .i64)) (cq : P.cellsOf q = 1) (hf : IntFields fs q 5) : KTrod enc P w base spare held legK t := by
  intro n cs x h
  obtain ⟨hl, F, hF⟩ := trod_ints ht hC hq cq hf h
  exact ⟨_, list5 hl hF⟩

theorem list7 {cs : List Value} (hl : cs.length = 7) : ∃ a b c d e f g, cs = [a, b, c, d, e, f, g] := by
  match cs, hl with
  | [a, b, c, d, e, f, g], _ => exact ⟨a, b, c, d, e, f, g, rfl⟩
theorem trod_dd {t q s : TypeId} {fs : Array Field} {f2 : Field} (ht : P.underlying t = some (.struct fs)) (hC : P.cellsOf t = 7) (hq : P.underlying q = some (.int .i64)) (cq : P.cellsOf q = 1) (hf : IntFields fs q 2) (h2 : fs[2]? = some f2) (o2 : f2.offset = 2) (t2 : f2.type = s) (cs5 : P.cellsOf s = 5)
    (hs : KTrod enc P w base spare held legK s) : KTrod enc P w base spare held ddK t := by
  intro n cs x h
  obtain ⟨xs, m, _, _, hlen, hxl, hg⟩ := DataW.trod_struct ht h
  rw [hC] at hlen
  have hx : ∀ i f, fs[i]? = some f → ∃ y, xs[i]? = some y := fun i f hfi => ⟨_, List.getElem?_eq_getElem (by rw [hxl]; exact (Array.getElem?_eq_some_iff.1 hfi).1)⟩
  have one : ∀ i, i < 2 → ∃ z, cs[i]? = some (.int .i64 z) := fun i hi => by
    obtain ⟨f, hfi, ho, hty⟩ := hf i hi
    have h1 := hg i f hfi
    obtain ⟨y, hy⟩ := hx i f hfi
    rw [ho, hty, cq, hy] at h1
    exact trod_intAt hq h1
  obtain ⟨z0, e0⟩ := one 0 (by omega)
  obtain ⟨z1, e1⟩ := one 1 (by omega)
  have h3 := hg 2 f2 h2
  obtain ⟨y, hy⟩ := hx 2 f2 h2
  rw [o2, t2, cs5, hy] at h3
  obtain ⟨g, hg5⟩ := hs _ _ _ h3
  refine ⟨⟨z0, z1, g⟩, ?_⟩
  obtain ⟨a, b, c, d, e, f, g', rfl⟩ := list7 hlen
  simp only [List.getElem?_cons_zero, List.getElem?_cons_succ, Option.some.injEq] at e0 e1
  subst e0 e1
  have : [c, d, e, f, g'] = legK.cells g := by simpa using hg5
  show _ :: _ :: [c, d, e, f, g'] = _
  rw [this]
  rfl

theorem open_K {α : Type} [Inhabited α] {K : Kind α} {t e : TypeId} {cs : List Value} {x : DataW H × List MemPlace} (ht : P.underlying t = some (.slice e)) (hsz : P.cellsOf e = K.sz) (hp : 0 < K.sz) (he : KTrod enc P w base spare held K e)
    (h : DataW.trod enc P w base spare held fuel t cs = some x) : ∃ (a : Option Addr) (c : Nat) (xs : List α), cs = [.slice a xs.length c] ∧ xs.length ≤ c ∧ c ≤ maxLen ∧ KRd K w a xs := by
  rcases open_slice ht h with ⟨hcs, _⟩ | ⟨y, l, c, m, n, D, Pl, hcs, _, hl, hm, hmm, _, hx⟩
  · exact ⟨none, 0, [], hcs, Nat.le_refl _, Nat.zero_le _, .inl rfl⟩
  · have hlen : l ≤ m := by rw [hmm]; split <;> omega
    have each : ∀ i, i < l → ∃ a : α, ∀ j u, (K.cells a)[j]? = some u → w.cell? (y.add (i * K.sz + j)) = some u := by
      intro i hi
      obtain ⟨cs', hc, ht'⟩ := hx i (by omega)
      rw [hsz] at hc
      obtain ⟨_, hcl, hat⟩ := World.cells?_some hc
      obtain ⟨a, rfl⟩ := he _ _ _ ht'
      refine ⟨a, fun j u hu => ?_⟩
      have hj : j < K.sz := by have := (List.getElem?_eq_some_iff.1 hu).1; rwa [K.len] at this
      have := hat j hj
      rw [hu] at this
      rwa [Go.Deep.add_add] at this
    obtain ⟨F, hF⟩ := choose_lt each
    refine ⟨some y, c, (List.range l).map F, by rw [hcs]; simp, by simpa using hl, hm, ?_⟩
    by_cases h0 : l = 0
    · subst h0; exact .inl (by simp)
    · have hu : (K.cells (F 0))[0]? = some ((K.cells (F 0))[0]'(by rw [K.len]; exact hp)) := List.getElem?_eq_getElem _
      have h1 := hF 0 (by omega) 0 _ hu
      rw [Nat.zero_mul, Nat.zero_add] at h1
      have e1 := addr_cell h1
      generalize y.block = b, y.off = o at e1
      subst e1
      rw [Addr.add_lit] at h1
      refine .inr ⟨b, o, rfl, cell_lt h1, fun k hk j u hu => ?_⟩
      simp only [List.length_map, List.length_range] at hk
      have en : nth ((List.range l).map F) k = F k := by simp [nth, hk]
      rw [en] at hu
      have := hF k hk j u hu
      rwa [Addr.add_lit, ← Nat.add_assoc] at this

theorem trod_Sv {t q s : TypeId} {f0 f1 : Field} {cs : List Value} {x : DataW H × List MemPlace} {e : TypeId} (ht : P.underlying t = some (.struct #[f0, f1])) (hC : P.cellsOf t = 2) (hq : P.underlying q = some (.int .i64)) (cq : P.cellsOf q = 1) (o0 : f0.offset = 0) (t0 : f0.type = q) (o1 : f1.offset = 1) (t1 : f1.type = s)
    (hs : P.underlying s = some (.slice e)) (cs1 : P.cellsOf s = 1) (he : P.cellsOf e = 5) (hk : KTrod enc P w base spare held legK e) (h : DataW.trod enc P w base spare held fuel t cs = some x) :
    ∃ st a c xs, cs = [.int .i64 st, .slice a xs.length c] ∧ xs.length ≤ c ∧ c ≤ maxLen ∧ Legs w a xs := by
  obtain ⟨xs, m, _, _, hlen, hxl, hg⟩ := DataW.trod_struct ht h
  rw [hC] at hlen
  have h0 := hg 0 f0 rfl
  have h1 := hg 1 f1 rfl
  simp at hxl
  rw [o0, t0, cq, List.getElem?_eq_getElem (by omega)] at h0
  rw [o1, t1, cs1, List.getElem?_eq_getElem (by omega)] at h1
  obtain ⟨z, e0⟩ := trod_intAt hq h0
  obtain ⟨a, c, l, e1, h2, h3, h4⟩ := open_K hs he (by decide) hk h1
  refine ⟨z, a, c, l, ?_, h2, h3, h4⟩
  match cs, hlen with
  | [u, v], _ =>
    simp only [List.getElem?_cons_zero, Option.some.injEq] at e0
    subst e0
    simp at e1
    rw [e1]

theorem open_Sv {r : Reach} {b0 : Nat} {t q s : TypeId} {f0 f1 : Field} {v : Value} {d : DataW H} {p : List MemPlace} {e : TypeId} (ht : P.underlying t = some (.struct #[f0, f1])) (hC : P.cellsOf t = 2) (hq : P.underlying q = some (.int .i64)) (cq : P.cellsOf q = 1) (o0 : f0.offset = 0) (t0 : f0.type = q) (o1 : f1.offset = 1) (t1 : f1.type = s)
    (hs : P.underlying s = some (.slice e)) (cs1 : P.cellsOf s = 1) (he : P.cellsOf e = 5) (hk : KTrod enc P w base spare held legK e) (hv : Value.okWide P w r b0 t v) (h : DataW.Trod enc P w base spare held t v d p) :
    ∃ st a c xs, v = .agg #[.int .i64 st, .slice a xs.length c] ∧ xs.length ≤ c ∧ c ≤ maxLen ∧ Legs w a xs := by
  obtain ⟨⟨cs⟩, rfl, hsz⟩ := okWide_struct ht hv
  obtain ⟨fuel, hf⟩ := h
  obtain ⟨st, a, c, xs, e1, h2, h3, h4⟩ := trod_Sv ht hC hq cq o0 t0 o1 t1 hs cs1 he hk hf
  simp only [Value.cells] at e1
  exact ⟨st, a, c, xs, by rw [e1], h2, h3, h4⟩

theorem open_Dd {r : Reach} {b0 : Nat} {t : TypeId} {fs : Array Field} {v : Value} {d : DataW H} {p : List MemPlace} (ht : P.underlying t = some (.struct fs)) (hk : KTrod enc P w base spare held ddK t) (hv : Value.okWide P w r b0 t v) (h : DataW.Trod enc P w base spare held t v d p) : ∃ x : Dd, v = x.val := by
  obtain ⟨⟨cs⟩, rfl, hsz⟩ := okWide_struct ht hv
  obtain ⟨fuel, hf⟩ := h
  obtain ⟨x, e⟩ := hk _ _ _ hf
  simp only [Value.cells] at e
  exact ⟨x, by rw [e]; rfl⟩

theorem open_Bk {r : Reach} {b0 : Nat} {t u s : TypeId} {f0 f1 f2 : Field} {v : Value} {d : DataW H} {p : List MemPlace} {e : TypeId} (ht : P.underlying t = some (.struct #[f0, f1, f2])) (hC : P.cellsOf t = 4) (o0 : f0.offset = 0) (t0 : f0.type = u) (o1 : f1.offset = 2) (t1 : f1.type = s) (o2 : f2.offset = 3) (t2 : f2.type = s)
    (cu : P.cellsOf u = 2) (hu : ∀ n cs x, DataW.trod enc P w base spare held n u cs = some x → ∃ st a c xs, cs = [.int .i64 st, .slice a xs.length c] ∧ xs.length ≤ c ∧ c ≤ maxLen ∧ Legs w a xs)
    (hs : P.underlying s = some (.slice e)) (cs1 : P.cellsOf s = 1) (he : P.cellsOf e = 7) (hk : KTrod enc P w base spare held ddK e) (hv : Value.okWide P w r b0 t v) (h : DataW.Trod enc P w base spare held t v d p) :
    ∃ st a1 c1 l a2 c2 m a3 c3 n, v = .agg #[.int .i64 st, .slice a1 l.length c1, .slice a2 m.length c2, .slice a3 n.length c3] ∧ (l.length ≤ c1 ∧ c1 ≤ maxLen ∧ Legs w a1 l) ∧ (m.length ≤ c2 ∧ c2 ≤ maxLen ∧ Dds w a2 m) ∧ (n.length ≤ c3 ∧ c3 ≤ maxLen ∧ Dds w a3 n) := by
  obtain ⟨⟨cs⟩, rfl, hsz⟩ := okWide_struct ht hv
  obtain ⟨fuel, hf⟩ := h
  obtain ⟨xs, m, _, _, hlen, hxl, hg⟩ := DataW.trod_struct ht hf
  simp only [Value.cells] at hlen hg
  rw [hC] at hlen
  have h0 := hg 0 f0 rfl
  have h1 := hg 1 f1 rfl
  have h2 := hg 2 f2 rfl
  simp at hxl
  rw [o0, t0, cu, List.getElem?_eq_getElem (by omega)] at h0
  rw [o1, t1, cs1, List.getElem?_eq_getElem (by omega)] at h1
  rw [o2, t2, cs1, List.getElem?_eq_getElem (by omega)] at h2
  obtain ⟨st, a1, c1, l, e1, q1⟩ := hu _ _ _ h0
  obtain ⟨a2, c2, m2, e2, q2⟩ := open_K hs he (by decide) hk h1
  obtain ⟨a3, c3, m3, e3, q3⟩ := open_K hs he (by decide) hk h2
  refine ⟨st, a1, c1, l, a2, c2, m2, a3, c3, m3, ?_, q1, q2, q3⟩
  match cs, hlen with
  | [x0, x1, x2, x3], _ =>
    simp at e1 e2 e3
    rw [e1.1, e1.2, e2, e3]
end
end Go.Proofs.YtgggbapcpjfljaaGreatDoor
