/- Rows of elements under way: which elements lie at which places; copy, clear, append over them, whatever the kind of elements. -/
import Derived.Test.YtgggbapcpjfljaaGreatDoorKap
import Derived.Laws.IdiomCopy
import Derived.Lib.AppendZerosOnto
import Derived.ArgAppend
namespace Go.Proofs.YtgggbapcpjfljaaGreatDoor
open Go Go.RowKit

theorem rowIs_setCells {T : TypeId} {N : Nat} (g : Nat) : ∀ (vs : List Value) (o : Nat) (w : World) (f : Nat → Value), w.rowIs g T N f → (w.setCells g o vs).rowIs g T N (fun j => if o ≤ j ∧ j < o + vs.length then vs.getD (j - o) undef else f j)
  | [], o, w, f, h => World.rowIs.congr h fun j _ => by rw [if_neg (by simp)]
  | v :: r, o, w, f, h => by
    rw [World.setCells]
    refine World.rowIs.congr (rowIs_setCells g r (o + 1) _ _ (World.rowIs.set h o v)) fun j _ => ?_
    simp only [List.length_cons]
    by_cases e1 : o + 1 ≤ j ∧ j < o + 1 + r.length
    · rw [if_pos e1, if_pos (by omega), show j - o = (j - (o + 1)) + 1 by omega]
      rfl
    · rw [if_neg e1]
      by_cases e2 : j = o
      · subst e2; rw [if_pos rfl, if_pos (by omega)]; simp
      · rw [if_neg e2, if_neg (by omega)]
theorem setCells_other {T : TypeId} {N g g' : Nat} {f : Nat → Value} : ∀ (vs : List Value) (o : Nat) (w : World), w.rowIs g T N f → g ≠ g' → (w.setCells g' o vs).rowIs g T N f
  | [], _, _, h, _ => h
  | v :: r, o, w, h, hg => by
    rw [World.setCells]
    exact setCells_other r (o + 1) _ (World.rowIs.setOther h hg v) hg
theorem below_setCells {B : Nat} {w : World} (g : Nat) (hg : B ≤ g) : ∀ (vs : List Value) (o : Nat) (w' : World), Below B w w' → Below B w (w'.setCells g o vs)
  | [], _, _, h => h
  | v :: r, o, w', h => by rw [World.setCells]; exact below_setCells g hg r (o + 1) _ (h.setCell hg v)

section
variable {α : Type} {K : Kind α} {T t : TypeId} {w w' : World} {g cap : Nat} {F : Nat → Option α}

/-- block g is a row of the call's own for `cap` elements; at place k lies F k, where that is known -/
def KRow (K : Kind α) (T : TypeId) (w : World) (g cap : Nat) (F : Nat → Option α) : Prop :=
  ∃ f, w.rowIs g T (cap * K.sz) f ∧ ∀ k x, k < cap → F k = some x → ∀ r u, (K.cells x)[r]? = some u → f (k * K.sz + r) = u

theorem KRow.below (h : KRow K T w g cap F) (hb : Below w.heap.size w w') : KRow K T w' g cap F := by
  obtain ⟨f, h1, h2⟩ := h; exact ⟨f, rowIs_below h1 hb, h2⟩
where rowIs_below {w w' : World} {b t n : Nat} {f : Nat → Value} (h : w.rowIs b t n f) (hb : Below w.heap.size w w') : w'.rowIs b t n f := h.of_block (hb.block b h.lt)
theorem KRow.belowB {B : Nat} (h : KRow K T w g cap F) (hb : Below B w w') (hB : g < B) : KRow K T w' g cap F := by
  obtain ⟨f, h1, h2⟩ := h; exact ⟨f, h1.of_block (hb.block g hB), h2⟩
theorem KRow.lt (h : KRow K T w g cap F) : g < w.heap.size := by obtain ⟨f, h1, _⟩ := h; exact h1.lt
theorem KRow.drew (h : KRow K T w g cap F) : KRow K T w.drew g cap F := h
theorem KRow.shape (h : KRow K T w g cap F) : w.shape? g = some (T, cap * K.sz) := by
  obtain ⟨f, ⟨c, hb, hn, _⟩, _⟩ := h
  simp [World.shape?, hb, hn]
theorem KRow.has (h : KRow K T w g cap F) {j : Nat} (hj : j < cap * K.sz) : (w.cell? ⟨g, j, none⟩).isSome = true := by
  obtain ⟨f, h1, _⟩ := h; rw [h1.cell hj]; rfl
theorem KRow.free (h : KRow K T w g cap F) (j : Nat) : w.frozen? ⟨g, j, none⟩ = false := by
  obtain ⟨f, h1, _⟩ := h; exact h1.frozen j
theorem mul_lt {k cap sz r : Nat} (hk : k < cap) (hr : r < sz) : k * sz + r < cap * sz := by
  have : (k + 1) * sz ≤ cap * sz := Nat.mul_le_mul_right _ hk
  rw [Nat.succ_mul] at this; omega
theorem KRow.at (h : KRow K T w g cap F) {k : Nat} {x : α} (hk : k < cap) (hx : F k = some x) {r : Nat} {u : Value} (hr : (K.cells x)[r]? = some u) : w.cell? ⟨g, k * K.sz + r, none⟩ = some u := by
  obtain ⟨f, h1, h2⟩ := h
  have hrs : r < K.sz := by have := (List.getElem?_eq_some_iff.1 hr).1; rwa [K.len] at this
  rw [h1.cell (mul_lt hk hrs), h2 k x hk hx r u hr]
theorem KRow.congr (h : KRow K T w g cap F) {G : Nat → Option α} (e : ∀ k, k < cap → ∀ x, G k = some x → F k = some x) : KRow K T w g cap G := by
  obtain ⟨f, h1, h2⟩ := h; exact ⟨f, h1, fun k x hk hx => h2 k x hk (e k hk x hx)⟩
theorem KRow.setOther (h : KRow K T w g cap F) {p : Addr} (hp : g ≠ p.block) (v : Value) : KRow K T (w.setCell p v) g cap F := by
  obtain ⟨f, h1, h2⟩ := h; exact ⟨f, World.rowIs.setOther h1 hp v, h2⟩
theorem KRow.setCellsOther (h : KRow K T w g cap F) {g' : Nat} (hp : g ≠ g') (o : Nat) (vs : List Value) : KRow K T (w.setCells g' o vs) g cap F := by
  obtain ⟨f, h1, h2⟩ := h; exact ⟨f, setCells_other vs o w h1 hp, h2⟩

theorem div_place {a b sz r s : Nat} (hr : r < sz) (hs : s < sz) (h : a * sz + r = b * sz + s) : a = b ∧ r = s := by
  have e1 : (a * sz + r) / sz = a := by rw [Nat.mul_comm, Nat.mul_add_div (by omega), Nat.div_eq_of_lt hr]; rfl
  have e2 : (b * sz + s) / sz = b := by rw [Nat.mul_comm, Nat.mul_add_div (by omega), Nat.div_eq_of_lt hs]; rfl
  have : a = b := by rw [← e1, h, e2]
  subst this
  exact ⟨rfl, by omega⟩

/-- several elements laid from a place on -/
theorem KRow.put [Inhabited α] (h : KRow K T w g cap F) (o : Nat) (ys : List α) : KRow K T (w.setCells g (o * K.sz) (K.flat ys)) g cap (fun k => if o ≤ k ∧ k < o + ys.length then some (nth ys (k - o)) else F k) := by
  obtain ⟨f, h1, h2⟩ := h
  refine ⟨_, rowIs_setCells g _ _ _ _ h1, fun k x hk hx r u hr => ?_⟩
  have hrs : r < K.sz := by have := (List.getElem?_eq_some_iff.1 hr).1; rwa [K.len] at this
  rw [flat_length]
  change (if _ then _ else _) = _ at hx
  by_cases e : o ≤ k ∧ k < o + ys.length
  · rw [if_pos e] at hx
    cases hx
    have e1 : o * K.sz ≤ k * K.sz := Nat.mul_le_mul_right _ e.1
    have e2 : k * K.sz + r - o * K.sz = (k - o) * K.sz + r := by rw [Nat.sub_mul]; omega
    have e3 := mul_lt (sz := K.sz) (r := r) (show k - o < ys.length by omega) hrs
    have e4 : (k - o) * K.sz = k * K.sz - o * K.sz := Nat.sub_mul _ _ _
    rw [if_pos ⟨by omega, by omega⟩, e2]
    have := flat_get ys (k - o) r (by omega) hrs
    rw [hr] at this
    simp [this]
  · rw [if_neg e] at hx
    rw [if_neg]
    · exact h2 k x hk hx r u hr
    · rintro ⟨e1, e2⟩
      apply e
      constructor
      · apply Nat.le_of_not_lt
        intro hlt
        have : (k + 1) * K.sz ≤ o * K.sz := Nat.mul_le_mul_right _ hlt
        rw [Nat.succ_mul] at this; omega
      · apply Nat.lt_of_not_le
        intro hle
        have : (o + ys.length) * K.sz ≤ k * K.sz := Nat.mul_le_mul_right _ hle
        rw [Nat.add_mul] at this; omega
/-- reading from a place on -/
theorem KRow.rd [Inhabited α] (h : KRow K T w g cap F) (o : Nat) (ys : List α) (hc : o + ys.length ≤ cap) (hF : ∀ k, k < ys.length → F (o + k) = some (nth ys k)) : KRd K w (some ⟨g, o * K.sz, none⟩) ys := by
  refine .inr ⟨g, _, rfl, h.lt, fun k hk r u hr => ?_⟩
  have := h.at (show o + k < cap by omega) (hF k hk) hr
  rw [Nat.add_mul] at this
  exact this
theorem KRow.own [Inhabited α] {B : Nat} (h : KRow K T w g cap F) (hB : B ≤ g) (zs : List α) (hc : zs.length ≤ cap) (hm : cap ≤ maxLen) (hF : ∀ k, k < zs.length → F k = some (nth zs k)) : KOwn K T w B (.slice (some ⟨g, 0, none⟩) zs.length cap) zs := by
  obtain ⟨f, h1, h2⟩ := h
  refine KOwn.ofRow hB hc hm h1 fun j u hj => ?_
  obtain ⟨k, r, hk, hr, e, hu⟩ := flat_split zs hj
  rw [e]
  exact h2 k _ (by omega) (hF k hk) r u hu
theorem KOwn.krow [Inhabited α] {B : Nat} {v : Value} {xs : List α} (h : KOwn K T w B v xs) (h0 : 0 < xs.length) : ∃ g cap, v = .slice (some ⟨g, 0, none⟩) xs.length cap ∧ B ≤ g ∧ xs.length ≤ cap ∧ cap ≤ maxLen ∧ KRow K T w g cap (fun k => if k < xs.length then some (nth xs k) else none) := by
  obtain ⟨g, cap, f, e, hB, hn, hm, hr, hf⟩ := h.row h0
  refine ⟨g, cap, e, hB, hn, hm, f, hr, fun k x hk hx r u hu => ?_⟩
  change (if _ then _ else _) = _ at hx
  by_cases hlt : k < xs.length
  · rw [if_pos hlt] at hx
    cases hx
    have hrs : r < K.sz := by have := (List.getElem?_eq_some_iff.1 hu).1; rwa [K.len] at this
    exact hf _ _ (by rw [flat_get xs k r hlt hrs]; exact hu)
  · rw [if_neg hlt] at hx; cases hx
/-- a new row, of anything -/
theorem KRow.new (w : World) (cs : Array Value) (hs : cs.size = cap * K.sz) (hF : ∀ k x, k < cap → F k = some x → ∀ r u, (K.cells x)[r]? = some u → cs[k * K.sz + r]? = some u) : KRow K T (w.alloc (.cells cs T)) w.heap.size cap F := by
  refine ⟨fun j => cs.getD j undef, ?_, fun k x hk hx r u hr => ?_⟩
  · have := World.rowIs_alloc w cs T (fun j => cs.getD j undef) (fun i hi => by simp [hi])
    rw [hs] at this; exact this
  · have := hF k x hk hx r u hr
    simp [this]

/-- copy over a row of the call's own -/
theorem run_kCopy [Inhabited α] {P : Program} (I : KInfo P K T t) (ty : TypeId) (h : KRow K T w g cap F) (o dLen dCap : Nat) {A : Option Addr} (sLen sCap : Nat) (ys : List α) (hy : KRd K w A ys) (hn : ys.length = Nat.min sLen dLen) (hfit : o + ys.length ≤ cap) :
    (Builtin.copy_ #[t, t] ty #[.slice (some ⟨g, o * K.sz, none⟩) dLen dCap, .slice A sLen sCap]).run P w = .ok (goInt ys.length) (w.setCells g (o * K.sz) (K.flat ys)) := by
  obtain ⟨i, z, bytes, hi, hz0, hz1, hz2, hz3, hz4⟩ := I.info
  cases A with
  | none =>
    obtain rfl := hy.empty
    have hn' : Nat.min sLen dLen = 0 := by simpa using hn.symm
    simp [Builtin.copy_, run_underlying I.und, Builtin.lenOf, Builtin.firstCells, sizeOf, typeInfo, hi, hn', storeCells, flat_nil, World.setCells]
  | some a =>
    have hlen : (K.flat ys).length = ys.length * K.sz := flat_length ys
    have hle : o * K.sz + ys.length * K.sz ≤ cap * K.sz := by rw [← Nat.add_mul]; exact Nat.mul_le_mul_right _ hfit
    have hl := run_loadCells_list (P := P) w a (K.flat ys) hy.cellsA
    rw [hlen] at hl
    have hst := run_storeCells_cells (P := P) g (o * K.sz) (K.flat ys) 0 w (fun j hj => by rw [hlen] at hj; exact h.has (by omega)) (fun j hj => h.free _) (flat_one ys)
    simp [Builtin.copy_, run_underlying I.und, Builtin.lenOf, Builtin.firstCells, sizeOf, typeInfo, hi, hz1, ← hn, hl, hst]

/-- anything laid from a place on: what lies before it stays -/
theorem KRow.over (h : KRow K T w g cap F) (o : Nat) (vs : List Value) : KRow K T (w.setCells g (o * K.sz) vs) g cap (fun k => if k < o then F k else none) := by
  obtain ⟨f, h1, h2⟩ := h
  refine ⟨_, rowIs_setCells g _ _ _ _ h1, fun k x hk hx r u hr => ?_⟩
  have hrs : r < K.sz := by have := (List.getElem?_eq_some_iff.1 hr).1; rwa [K.len] at this
  change (if _ then _ else _) = _ at hx
  by_cases e : k < o
  · rw [if_pos e] at hx
    have := mul_lt (sz := K.sz) e hrs
    rw [if_neg (by omega)]
    exact h2 k x hk hx r u hr
  · rw [if_neg e] at hx; cases hx
/-- append where there is room -/
theorem run_kRoom [Inhabited α] {P : Program} (I : KInfo P K T t) (ty : TypeId) (h : KRow K T w g cap F) (o : Nat) {A : Addr} (m c : Nat) (ys : List α) (hy : KRd K w (some A) ys) (hn : ys.length = m) (hfit : o + m ≤ cap) :
    (Builtin.append_ #[t, t] ty #[.slice (some ⟨g, 0, none⟩) o cap, .slice (some A) m c]).run P w = .ok (.slice (some ⟨g, 0, none⟩) (o + m) cap) (w.setCells g (o * K.sz) (K.flat ys)) := by
  obtain ⟨i, z, bytes, hi, hz0, hz1, hz2, hz3, hz4⟩ := I.info
  subst hn
  have hlen : (K.flat ys).length = ys.length * K.sz := flat_length ys
  have hle : o * K.sz + ys.length * K.sz ≤ cap * K.sz := by rw [← Nat.add_mul]; exact Nat.mul_le_mul_right _ hfit
  have := run_append_room_cells (P := P) w t ty T i I.und hi g 0 o cap A ys.length c (K.flat ys) (by rw [hz1]; exact hlen) hy.cellsA (flat_one ys) hfit (fun j hj => by rw [hlen] at hj; rw [hz1, Nat.zero_add]; exact h.has (by omega)) (fun j hj => h.free _)
  rw [hz1, Nat.zero_add] at this
  exact this
theorem zeroCells_size (z : Array Value) (n : Nat) : (Builtin.zeroCells z n).size = n * z.size := by simp [Builtin.zeroCells]
/-- clear over a row of the call's own -/
theorem run_kClear [Inhabited α] {P : Program} (I : KInfo P K T t) {z : Value} (hz : ∀ w, (zeroValue T).run P w = .ok z w) (hzs : z.cells.size = K.sz) (hz1 : ∀ u ∈ z.cells, u.oneCell' = true) (ty : TypeId) (h : KRow K T w g cap F) (o n c : Nat) (h0 : 0 < n) (hfit : o + n ≤ cap) :
    (Builtin.clear_ #[t] ty #[.slice (some ⟨g, o * K.sz, none⟩) n c]).run P w = .ok (.tuple #[]) (w.setCells g (o * K.sz) (Builtin.zeroCells z.cells n).toList) := by
  have hle : o * K.sz + n * K.sz ≤ cap * K.sz := by rw [← Nat.add_mul]; exact Nat.mul_le_mul_right _ hfit
  have hlen : (Builtin.zeroCells z.cells n).toList.length = n * K.sz := by rw [Array.length_toList, zeroCells_size, hzs]
  have hst := run_storeCells_cells (P := P) g (o * K.sz) (Builtin.zeroCells z.cells n).toList 0 w (fun j hj => by rw [hlen] at hj; exact h.has (by omega)) (fun j hj => h.free _) (by
    intro v hv
    obtain ⟨j, hj, e⟩ := List.mem_iff_getElem.1 hv
    have hj' : j < (Builtin.zeroCells z.cells n).size := by simpa using hj
    have hpos : 0 < z.cells.size := by
      rcases Nat.eq_zero_or_pos z.cells.size with e0 | e0
      · rw [zeroCells_size, e0] at hj'; simp at hj'
      · exact e0
    have hm : j % z.cells.size < z.cells.size := Nat.mod_lt _ hpos
    have e2 : v = z.cells[j % z.cells.size]! := by rw [← e]; simp [Builtin.zeroCells]
    rw [e2, getElem!_pos z.cells (j % z.cells.size) hm]
    exact hz1 _ (Array.getElem_mem hm))
  simp only [Nat.add_zero] at hst
  obtain ⟨m, rfl⟩ : ∃ m, n = m + 1 := ⟨n - 1, by omega⟩
  simp [Builtin.clear_, run_underlying I.und, hz, hst]
/-- append of zeros where there is no room: a new row -/
theorem run_kZeros [Inhabited α] {P : Program} (I : KInfo P K T t) {ti : TypeId} {kn kq : IntKind} (hti : P.underlying ti = some (.int kn)) (ty : TypeId) (h : KRow K T w g cap F) (o m : Nat) (xs : List α) (h0 : 0 < m) (hg : cap < o + m) (ho : xs.length = o) (hF : ∀ k, k < o → F k = some (nth xs k)) (hoc : o ≤ cap) (hb : o + m ≤ 2097160) :
    ∃ c2, o + m ≤ c2 ∧ c2 ≤ maxLen ∧ ∃ w2, (Builtin.append_ #[t, ti] ty #[.slice (some ⟨g, 0, none⟩) o cap, .int kq m]).run P w = .ok (.slice (some ⟨w.heap.size, 0, none⟩) (o + m) c2) w2 ∧ KRow K T w2 w.heap.size c2 (fun k => if k < o then some (nth xs k) else none) ∧ Below w.heap.size w w2 := by
  obtain ⟨i, z, bytes, hi, hz0, hz1, hz2, hz3, hz4⟩ := I.info
  have hr := h.rd 0 xs (by omega) (fun k hk => by rw [Nat.zero_add]; exact hF k (by omega))
  rw [Nat.zero_mul] at hr
  have hold : (Builtin.firstCells i.size o (.slice (some ⟨g, 0, none⟩) o cap)).run P w.drew = .ok (K.flat xs).toArray w.drew := by
    rw [hz1]
    have hl := run_loadCells_list (P := P) w.drew ⟨g, 0, none⟩ (K.flat xs) (fun j u hj => hr.cellsA j u hj)
    rw [flat_length, ho] at hl
    exact hl
  have hfit : (o + m) * bytes ≤ 140737488355328 := Nat.le_trans (Nat.mul_le_mul_left _ hz4) (by omega)
  have hrun := Lib.run_append_grow_zeros (P := P) w t ti ty T i z kq kn I.und hti hi hz0 (some ⟨g, 0, none⟩) o cap (K.flat xs) hold m h0 (by rw [hz1]; exact I.pos) hg (by omega) (by rw [hz2]; exact Nat.le_trans (Nat.mul_le_mul_left m hz4) (by omega)) (by rw [hz2]; exact growslice_fits hg hfit)
  have hge := grownCap_ge w (o + m) cap T
  refine ⟨_, hge, grownCap_le_maxLen w (o + m) cap T (by unfold maxLen; omega), _, hrun, ?_, ((Below.refl _ _).drew).alloc (Nat.le_refl _) _⟩
  refine KRow.new (w := w.drew) _ ?_ fun k x hk hx r u hr => ?_
  · simp only [Array.size_append, zeroCells_size, hz3, List.size_toArray, flat_length, ho, ← Nat.add_mul]
    congr 1; omega
  · change (if _ then _ else _) = _ at hx
    by_cases hlt : k < o
    · rw [if_pos hlt] at hx
      cases hx
      have hrs : r < K.sz := by have := (List.getElem?_eq_some_iff.1 hr).1; rwa [K.len] at this
      have hpl : k * K.sz + r < (K.flat xs).length := by rw [flat_length]; exact mul_lt (by omega) hrs
      rw [Array.append_assoc, Array.getElem?_append_left (by simpa using hpl)]
      have := flat_get xs k r (by omega) hrs
      rw [List.getElem?_toArray, this]; exact hr
    · rw [if_neg hlt] at hx; cases hx

theorem zeroCells_get (z : Array Value) (n j : Nat) (_hz : 0 < z.size) : (Builtin.zeroCells z n)[j]? = if j < n * z.size then some (z[j % z.size]!) else none := by
  by_cases hj : j < n * z.size <;> simp [Builtin.zeroCells, hj]
end
end Go.Proofs.YtgggbapcpjfljaaGreatDoor
