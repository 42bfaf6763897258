/- Rows of the call's own, of any kind of element that is laid in cells: generic words and laws. -/
import Derived.Test.YtinhlaiogkmkfaaQGk
import Derived.OwnWalk
import Derived.Laws.AppendOwn
import Derived.Deep.AppendLies
namespace Go.Proofs.Ytinhlaiogkmkfaa.G
open Go.RowKit
set_option linter.unusedVariables false
set_option linter.unusedSimpArgs false
/-- A kind of element: type T, slices of it Ts, its cells. -/
structure El (P : Program) (T Ts : TypeId) (α : Type) where
  enc : α → List Value
  sz : Nat
  wd : Nat
  zero : Value
  hpos : 0 < sz
  henc : ∀ x, (enc x).length = sz
  hone : ∀ x, ∀ u ∈ enc x, u.oneCell' = true
  hi : (P.info? T).map (fun i => (i.zero, i.size, i.bytes)) = some (some zero, sz, wd)
  hzs : zero.cells.size = sz
  hu : P.underlying Ts = some (.slice T)
theorem info_get {P : Program} {T : TypeId} {z : Value} {sz wd : Nat} (h : (P.info? T).map (fun i => (i.zero, i.size, i.bytes)) = some (some z, sz, wd)) : ∃ i, P.info? T = some i ∧ i.zero = some z ∧ i.size = sz ∧ i.bytes = wd := by
  cases hq : P.info? T with
  | none => simp [hq] at h
  | some i =>
    simp only [hq, Option.map_some, Option.some.injEq, Prod.mk.injEq] at h
    exact ⟨i, rfl, h.1, h.2.1, h.2.2⟩
theorem addr_add (g o j : Nat) : (⟨g, o, none⟩ : Addr).add j = ⟨g, o + j, none⟩ := by unfold Addr.add; split <;> simp_all
namespace El
variable {P : Program} {T Ts : TypeId} {α : Type} (E : El P T Ts α)
def cells (l : List α) : List Value := l.flatMap E.enc
theorem cells_length (l : List α) : (E.cells l).length = l.length * E.sz := by
  induction l with
  | nil => simp [cells]
  | cons s l ih =>
    have := E.henc s
    simp only [cells, List.flatMap_cons, List.length_append, List.length_cons] at ih ⊢
    rw [ih, this, Nat.add_mul]
    omega
theorem cells_append (l m : List α) : E.cells (l ++ m) = E.cells l ++ E.cells m := by simp [cells]
theorem cells_one (x : α) : E.cells [x] = E.enc x := by simp [cells]
theorem cells_at (l : List α) : ∀ i q j, l[i]? = some q → j < E.sz → (E.cells l)[i * E.sz + j]? = (E.enc q)[j]? := by
  induction l with
  | nil => intro i q j h; simp at h
  | cons s l ih =>
    intro i q j h hj
    have hl := E.henc s
    cases i with
    | zero =>
      simp at h
      subst h
      simp only [cells, List.flatMap_cons, Nat.zero_mul, Nat.zero_add]
      rw [List.getElem?_append_left (by omega)]
    | succ i =>
      have := ih i q j (by simpa using h) hj
      simp only [cells, List.flatMap_cons] at this ⊢
      rw [Nat.add_mul, Nat.one_mul, List.getElem?_append_right (by omega), hl, show i * E.sz + E.sz + j - E.sz = i * E.sz + j from by omega]
      exact this
theorem cells_all (l : List α) : ∀ u ∈ E.cells l, u.oneCell' = true := by
  intro u hu
  simp only [cells, List.mem_flatMap] at hu
  obtain ⟨x, _, hx⟩ := hu
  exact E.hone x u hx
/-- The slice v, of the call's own, holds the elements l. -/
def Own (w : World) (base : Nat) (v : Value) (l : List α) : Prop := w.ownsRow base T E.sz v l.length (E.cells l)
variable {E} {w w' : World} {base : Nat} {v : Value} {l : List α}
theorem own_nil (w : World) (base : Nat) : E.Own w base (.slice none 0 0) [] := by
  unfold Own
  exact World.ownsRow_nil w base T E.sz
theorem Own.but {S : Nat → Prop} (h : E.Own w base v l) (hb : But S w w') (hn : ∀ k, base ≤ k → k < w.heap.size → ¬ S k) : E.Own w' base v l := own_but h hb hn
theorem Own.new (h : E.Own w base v l) (hb : But No w w') : E.Own w' base v l := own_but h hb (fun _ _ _ c => c)
theorem Own.drewN (h : E.Own w base v l) (n : Nat) : E.Own (w.drewN n) base v l := h
theorem Own.alloc (h : E.Own w base v l) (o : Obj) : E.Own (w.alloc o) base v l := World.ownsRow.alloc h o
theorem Own.set {p : Addr} (h : E.Own w base v l) (hp : p.block < base) (u : Value) : E.Own (w.setCell p u) base v l := own_at h fun k hk => Below.heap_setCell _ _ _ _ (by have := (h.lt k hk).1; omega)
theorem Own.slice (h : E.Own w base v l) : ∃ A c, v = .slice A l.length c := own_slice h
theorem Own.lit (h : E.Own w base v l) (hl : 0 < l.length) : ∃ g c, v = .slice (some ⟨g, 0, none⟩) l.length c ∧ base ≤ g ∧ g < w.heap.size ∧ l.length ≤ c ∧ c ≤ 9223372036854775807 := by
  rcases h.2 with ⟨hv, h0⟩ | ⟨g, cap, cur, hv, hg, hh, hc, hm, hcs, ht⟩
  · omega
  · exact ⟨g, cap, hv, hg, lt_of_block hh, hc, by unfold maxLen at hm; omega⟩
theorem Own.block {g n c : Nat} (h : E.Own w base (.slice (some ⟨g, 0, none⟩) n c) l) : base ≤ g ∧ g < w.heap.size ∧ n = l.length := by
  rcases h.2 with ⟨hv, h0⟩ | ⟨g', cap, cur, hv, hg, hh, hc, hm, hcs, ht⟩
  · cases hv
  · injection hv with hA hB hC
    injection hA with hA
    injection hA with hA
    subst hA
    exact ⟨hg, lt_of_block hh, hB⟩
theorem Own.form (h : E.Own w base v l) : (v = .slice none 0 0 ∧ l = []) ∨ ∃ g c, v = .slice (some ⟨g, 0, none⟩) l.length c ∧ base ≤ g ∧ g < w.heap.size ∧ l.length ≤ c ∧ c ≤ 9223372036854775807 := by
  rcases h.2 with ⟨hv, h0⟩ | ⟨g, cap, cur, hv, hg, hh, hc, hm, hcs, ht⟩
  · exact .inl ⟨hv, List.eq_nil_of_length_eq_zero h0⟩
  · exact .inr ⟨g, cap, hv, hg, lt_of_block hh, hc, by unfold maxLen at hm; omega⟩
theorem Own.cap {g n c : Nat} (h : E.Own w base (.slice (some ⟨g, 0, none⟩) n c) l) : l.length ≤ c := by
  rcases h.2 with ⟨hv, h0⟩ | ⟨g', cap, cur, hv, hg, hh, hc, hm, hcs, ht⟩
  · cases hv
  · injection hv with hA hB hC
    subst hC
    exact hc
theorem Own.cell {g n c : Nat} (h : E.Own w base (.slice (some ⟨g, 0, none⟩) n c) l) (i : Nat) (q : α) (hi : l[i]? = some q) (j : Nat) (u : Value) (hj : (E.enc q)[j]? = some u) : w.cell? ⟨g, i * E.sz + j, none⟩ = some u := by
  rcases h with ⟨hl, ⟨hv, h0⟩ | ⟨g', cap, cur, hv, hg, hh, hc, hm, hcs, ht⟩⟩
  · cases hv
  · injection hv with hA hB hC
    injection hA with hA
    injection hA with hA
    subst hA
    have hjs : j < E.sz := by
      have := E.henc q
      have hjl := (List.getElem?_eq_some_iff.1 hj).1
      omega
    have h2 := E.cells_at l i q j hi hjs
    rw [hj] at h2
    rw [cell_of_row w g _ cur _ _ hh, ← Array.getElem?_toList]
    rw [← ht, List.getElem?_take] at h2
    split at h2
    · exact h2
    · cases h2
/-- Cells of a part of the row. -/
theorem Own.part {g n c : Nat} {l0 l1 : List α} (h : E.Own w base (.slice (some ⟨g, 0, none⟩) n c) (l0 ++ l1)) : ∀ j u, (E.cells l1)[j]? = some u → w.cell? ((⟨g, l0.length * E.sz, none⟩ : Addr).add j) = some u := by
  intro j u hj
  rcases h with ⟨hl, ⟨hv, h0⟩ | ⟨g', cap, cur, hv, hg, hh, hc, hm, hcs, ht⟩⟩
  · cases hv
  · injection hv with hA hB hC
    injection hA with hA
    injection hA with hA
    subst hA
    have h2 : (E.cells (l0 ++ l1))[l0.length * E.sz + j]? = some u := by
      rw [E.cells_append, List.getElem?_append_right (by rw [E.cells_length]; exact Nat.le_add_right _ _), E.cells_length, Nat.add_sub_cancel_left]
      exact hj
    rw [addr_add, cell_of_row w g _ cur _ _ hh, ← Array.getElem?_toList]
    rw [← ht, List.getElem?_take] at h2
    split at h2
    · exact h2
    · cases h2
theorem Own.shrink {g n c : Nat} {l0 l1 : List α} (h : E.Own w base (.slice (some ⟨g, 0, none⟩) n c) (l0 ++ l1)) : E.Own w base (.slice (some ⟨g, 0, none⟩) l0.length c) l0 := by
  rcases h with ⟨hl, ⟨hv, h0⟩ | ⟨g', cap, cur, hv, hg, hh, hc, hm, hcs, ht⟩⟩
  · cases hv
  · injection hv with hA hB hC
    injection hA with hA
    injection hA with hA
    subst hA hC
    rw [List.length_append] at hc
    have hle : l0.length * E.sz ≤ (l0 ++ l1).length * E.sz := Nat.mul_le_mul_right _ (by simp)
    refine ⟨E.cells_length l0, .inr ⟨g, c, cur, rfl, hg, hh, by omega, hm, hcs, ?_⟩⟩
    have := congrArg (List.take (l0.length * E.sz)) ht
    rw [List.take_take, Nat.min_eq_left hle] at this
    rw [this, E.cells_append, List.take_left' (E.cells_length l0)]
theorem Own.fresh (w : World) (base : Nat) (hb : base ≤ w.heap.size) : E.Own (w.alloc (.cells #[] T)) base (.slice (some ⟨w.heap.size, 0, none⟩) 0 0) [] :=
  ⟨by simp [cells], .inr ⟨_, 0, #[], rfl, hb, heap_alloc_new _ _, Nat.le_refl _, by unfold maxLen; omega, by simp, by simp [cells]⟩⟩
theorem Own.fresh' (w : World) (base : Nat) {b : Nat} (h : w.heap.size = b) (hb : base ≤ b) : E.Own (w.alloc (.cells #[] T)) base (.slice (some ⟨b, 0, none⟩) 0 0) [] := by
  subst h
  exact Own.fresh w base hb
/-- append of elements that lie at an address. -/
theorem append (E : El P T Ts α) {ops : Array Oper} {rest : List Oper} {o : Oper} {a : Act} {W : World} {Q : Exit → Act → World → Prop} (hgd : o.guard = none) (s y : Operand)
    (ho : o.op = .call { callee := .builtin .append, args := #[s, y], argTypes := #[Ts, Ts] }) (hty : o.type = Ts)
    (base : Nat) (v : Value) (l : List α) (hs : a.eval s = v) (hI : E.Own W base v l) (ad : Addr) (m c : Nat) (ns : List α) (hm : ns.length = m) (hpos : 0 < l.length + m) (hy : a.eval y = .slice (some ad) m c)
    (hc : ∀ j u, (E.cells ns)[j]? = some u → W.cell? (ad.add j) = some u) (hl : (l.length + m) * (E.wd + 1) ≤ 140737488355328) (hb : base ≤ W.heap.size)
    (h : ∀ g2 c2 w', E.Own w' base (.slice (some ⟨g2, 0, none⟩) (l.length + m) c2) (l ++ ns) → W.grownBy w' v.ownBlock → wpList P ops Q rest (a.put o.dst (.slice (some ⟨g2, 0, none⟩) (l.length + m) c2)) w') : wpList P ops Q (o :: rest) a W := by
  obtain ⟨i, h1, h2, h3, h4⟩ := info_get E.hi
  have hn : l.length + m ≤ 140737488355328 := Nat.le_trans (Nat.le_mul_of_pos_right _ (by omega)) hl
  have hnb : (l.length + m) * E.wd ≤ 140737488355328 := Nat.le_trans (Nat.mul_le_mul_left _ (by omega)) hl
  refine wpList_append_own W hgd s y Ts ho base T i E.zero E.sz E.wd E.hu h1 h2 h3 h4 E.hzs E.hpos v l.length (E.cells l) hs hI ad m c (E.cells ns) hy (by rw [E.cells_length, hm]) hc (E.cells_all ns) (by unfold maxLen; omega) hnb hb (fun v' w' h5 h6 h7 => ?_)
  rcases h5.2 with ⟨hv, h0⟩ | ⟨g, cap, cur, hv, hg, hh, hcc, hmx, hcs, ht⟩
  · omega
  · subst hv
    refine h g cap w' ?_ h6
    unfold Own
    rw [List.length_append, hm, E.cells_append]
    exact h5
/-- append inside a region that draws its order. -/
theorem step (E : El P T Ts α) {ops : Array Oper} {o : Oper} {a : Act} {W : World} {K : Act → World → Prop} {Q : Exit → Act → World → Prop} {Ex : Prop} (hgd : o.guard = none) (s y : Operand)
    (ho : o.op = .call { callee := .builtin .append, args := #[s, y], argTypes := #[Ts, Ts] }) (hty : o.type = Ts)
    (base : Nat) (v : Value) (l : List α) (hs : a.eval s = v) (hI : E.Own W base v l) (ad : Addr) (m c : Nat) (ns : List α) (hm : ns.length = m) (hpos : 0 < l.length + m) (hy : a.eval y = .slice (some ad) m c)
    (hc : ∀ j u, (E.cells ns)[j]? = some u → W.cell? (ad.add j) = some u) (hl : (l.length + m) * (E.wd + 1) ≤ 140737488355328) (hb : base ≤ W.heap.size)
    (h : ∀ g2 c2 w', E.Own w' base (.slice (some ⟨g2, 0, none⟩) (l.length + m) c2) (l ++ ns) → W.grownBy w' v.ownBlock → K (a.put o.dst (.slice (some ⟨g2, 0, none⟩) (l.length + m) c2)) w') :
    if Region.wanted o (yielded ops a.tmps) = true then Oper.wp P o a W K Q else Ex := by
  obtain ⟨i, h1, h2, h3, h4⟩ := info_get E.hi
  have hn : l.length + m ≤ 140737488355328 := Nat.le_trans (Nat.le_mul_of_pos_right _ (by omega)) hl
  have hnb : (l.length + m) * E.wd ≤ 140737488355328 := Nat.le_trans (Nat.mul_le_mul_left _ (by omega)) hl
  have hw : Region.wanted o (yielded ops a.tmps) = true := by simp [Region.wanted, hgd]
  rw [if_pos hw]
  refine wp_append_own W s y Ts ho base T i E.zero E.sz E.wd E.hu h1 h2 h3 h4 E.hzs E.hpos v l.length (E.cells l) hs hI ad m c (E.cells ns) hy (by rw [E.cells_length, hm]) hc (E.cells_all ns) (by unfold maxLen; omega) hnb hb (fun v' w' h5 h6 h7 => ?_)
  rcases h5.2 with ⟨hv, h0⟩ | ⟨g, cap, cur, hv, hg, hh, hcc, hmx, hcs, ht⟩
  · omega
  · subst hv
    refine h g cap w' ?_ h6
    unfold Own
    rw [List.length_append, hm, E.cells_append]
    exact h5
theorem step1 (E : El P T Ts α) {ops : Array Oper} {o : Oper} {a : Act} {W : World} {K : Act → World → Prop} {Q : Exit → Act → World → Prop} {Ex : Prop} (hgd : o.guard = none) (s y : Operand)
    (ho : o.op = .call { callee := .builtin .append, args := #[s, y], argTypes := #[Ts, Ts] }) (hty : o.type = Ts)
    (base : Nat) (v : Value) (l : List α) (hs : a.eval s = v) (hI : E.Own W base v l) (g1 : Nat) (x : α) (cs : Array Value) (hcs : cs.toList = E.enc x) (hy : a.eval y = .slice (some ⟨g1, 0, none⟩) 1 1)
    (hc : W.heap[g1]? = some (.cells cs T (0, 0))) (hl : (l.length + 1) * (E.wd + 1) ≤ 140737488355328) (hb : base ≤ W.heap.size)
    (h : ∀ g2 c2 w', E.Own w' base (.slice (some ⟨g2, 0, none⟩) (l.length + 1) c2) (l ++ [x]) → W.grownBy w' v.ownBlock → K (a.put o.dst (.slice (some ⟨g2, 0, none⟩) (l.length + 1) c2)) w') :
    if Region.wanted o (yielded ops a.tmps) = true then Oper.wp P o a W K Q else Ex := by
  refine E.step hgd s y ho hty base v l hs hI ⟨g1, 0, none⟩ 1 1 [x] rfl (by omega) hy ?_ hl hb h
  intro j u hj
  rw [E.cells_one] at hj
  rw [addr_add, cell_of_row W g1 _ cs _ _ hc, ← Array.getElem?_toList, hcs, Nat.zero_add]
  exact hj
/-- .. and where the row lies now. -/
theorem appendL (E : El P T Ts α) {ops : Array Oper} {rest : List Oper} {o : Oper} {a : Act} {W : World} {Q : Exit → Act → World → Prop} (hgd : o.guard = none) (s y : Operand)
    (ho : o.op = .call { callee := .builtin .append, args := #[s, y], argTypes := #[Ts, Ts] }) (hty : o.type = Ts)
    (base : Nat) (v : Value) (l : List α) (hs : a.eval s = v) (hI : E.Own W base v l) (ad : Addr) (m c : Nat) (ns : List α) (hm : ns.length = m) (hpos : 0 < m) (hy : a.eval y = .slice (some ad) m c)
    (hc : ∀ j u, (E.cells ns)[j]? = some u → W.cell? (ad.add j) = some u) (hl : (l.length + m) * (E.wd + 1) ≤ 140737488355328) (hb : base ≤ W.heap.size)
    (h : ∀ g2 c2 w', E.Own w' base (.slice (some ⟨g2, 0, none⟩) (l.length + m) c2) (l ++ ns) → W.grownBy w' v.ownBlock → (v.ownBlock = some g2 ∨ g2 = W.heap.size) → wpList P ops Q rest (a.put o.dst (.slice (some ⟨g2, 0, none⟩) (l.length + m) c2)) w') : wpList P ops Q (o :: rest) a W := by
  obtain ⟨i, h1, h2, h3, h4⟩ := info_get E.hi
  have hn : l.length + m ≤ 140737488355328 := Nat.le_trans (Nat.le_mul_of_pos_right _ (by omega)) hl
  have hnb : (l.length + m) * E.wd ≤ 140737488355328 := Nat.le_trans (Nat.mul_le_mul_left _ (by omega)) hl
  refine wpList_plain hgd fun _ hK => wp_append_lies W s y Ts ho base T i E.zero E.sz E.wd E.hu h1 h2 h3 h4 E.hzs E.hpos v l.length (E.cells l) hs hI ad m c (E.cells ns) hy (by rw [E.cells_length, hm]) hc (E.cells_all ns) hpos (by unfold maxLen; omega) hnb hb _ rfl (fun g cap w' h5 h6 h7 _ => hK _ _ (h g cap w' ?_ h6 h7))
  unfold Own
  rw [List.length_append, hm, E.cells_append]
  exact h5
theorem append1L (E : El P T Ts α) {ops : Array Oper} {rest : List Oper} {o : Oper} {a : Act} {W : World} {Q : Exit → Act → World → Prop} (hgd : o.guard = none) (s y : Operand)
    (ho : o.op = .call { callee := .builtin .append, args := #[s, y], argTypes := #[Ts, Ts] }) (hty : o.type = Ts)
    (base : Nat) (v : Value) (l : List α) (hs : a.eval s = v) (hI : E.Own W base v l) (g1 : Nat) (x : α) (cs : Array Value) (hcs : cs.toList = E.enc x) (hy : a.eval y = .slice (some ⟨g1, 0, none⟩) 1 1)
    (hc : W.heap[g1]? = some (.cells cs T (0, 0))) (hl : (l.length + 1) * (E.wd + 1) ≤ 140737488355328) (hb : base ≤ W.heap.size)
    (h : ∀ g2 c2 w', E.Own w' base (.slice (some ⟨g2, 0, none⟩) (l.length + 1) c2) (l ++ [x]) → W.grownBy w' v.ownBlock → (v.ownBlock = some g2 ∨ g2 = W.heap.size) → wpList P ops Q rest (a.put o.dst (.slice (some ⟨g2, 0, none⟩) (l.length + 1) c2)) w') : wpList P ops Q (o :: rest) a W := by
  refine E.appendL hgd s y ho hty base v l hs hI ⟨g1, 0, none⟩ 1 1 [x] rfl (by omega) hy ?_ hl hb h
  intro j u hj
  rw [E.cells_one] at hj
  rw [addr_add, cell_of_row W g1 _ cs _ _ hc, ← Array.getElem?_toList, hcs, Nat.zero_add]
  exact hj
theorem step1L (E : El P T Ts α) {ops : Array Oper} {o : Oper} {a : Act} {W : World} {K : Act → World → Prop} {Q : Exit → Act → World → Prop} {Ex : Prop} (hgd : o.guard = none) (s y : Operand)
    (ho : o.op = .call { callee := .builtin .append, args := #[s, y], argTypes := #[Ts, Ts] }) (hty : o.type = Ts)
    (base : Nat) (v : Value) (l : List α) (hs : a.eval s = v) (hI : E.Own W base v l) (g1 : Nat) (x : α) (cs : Array Value) (hcs : cs.toList = E.enc x) (hy : a.eval y = .slice (some ⟨g1, 0, none⟩) 1 1)
    (hc : W.heap[g1]? = some (.cells cs T (0, 0))) (hl : (l.length + 1) * (E.wd + 1) ≤ 140737488355328) (hb : base ≤ W.heap.size)
    (h : ∀ g2 c2 w', E.Own w' base (.slice (some ⟨g2, 0, none⟩) (l.length + 1) c2) (l ++ [x]) → W.grownBy w' v.ownBlock → (v.ownBlock = some g2 ∨ g2 = W.heap.size) → K (a.put o.dst (.slice (some ⟨g2, 0, none⟩) (l.length + 1) c2)) w') :
    if Region.wanted o (yielded ops a.tmps) = true then Oper.wp P o a W K Q else Ex := by
  obtain ⟨i, h1, h2, h3, h4⟩ := info_get E.hi
  have hn : l.length + 1 ≤ 140737488355328 := Nat.le_trans (Nat.le_mul_of_pos_right _ (by omega)) hl
  have hnb : (l.length + 1) * E.wd ≤ 140737488355328 := Nat.le_trans (Nat.mul_le_mul_left _ (by omega)) hl
  have hw : Region.wanted o (yielded ops a.tmps) = true := by simp [Region.wanted, hgd]
  rw [if_pos hw]
  refine wp_append_lies W s y Ts ho base T i E.zero E.sz E.wd E.hu h1 h2 h3 h4 E.hzs E.hpos v l.length (E.cells l) hs hI ⟨g1, 0, none⟩ 1 1 (E.cells [x]) hy (by rw [E.cells_length]; rfl) ?_ (E.cells_all [x]) (by omega) (by unfold maxLen; omega) hnb hb _ rfl (fun g cap w' h5 h6 h7 _ => h g cap w' ?_ h6 h7)
  · intro j u hj
    rw [E.cells_one] at hj
    rw [addr_add, cell_of_row W g1 _ cs _ _ hc, ← Array.getElem?_toList, hcs, Nat.zero_add]
    exact hj
  · unfold Own
    rw [List.length_append, E.cells_append]
    exact h5
/-- append of one element that was just made. -/
theorem append1 (E : El P T Ts α) {ops : Array Oper} {rest : List Oper} {o : Oper} {a : Act} {W : World} {Q : Exit → Act → World → Prop} (hgd : o.guard = none) (s y : Operand)
    (ho : o.op = .call { callee := .builtin .append, args := #[s, y], argTypes := #[Ts, Ts] }) (hty : o.type = Ts)
    (base : Nat) (v : Value) (l : List α) (hs : a.eval s = v) (hI : E.Own W base v l) (g1 : Nat) (x : α) (cs : Array Value) (hcs : cs.toList = E.enc x) (hy : a.eval y = .slice (some ⟨g1, 0, none⟩) 1 1)
    (hc : W.heap[g1]? = some (.cells cs T (0, 0))) (hl : (l.length + 1) * (E.wd + 1) ≤ 140737488355328) (hb : base ≤ W.heap.size)
    (h : ∀ g2 c2 w', E.Own w' base (.slice (some ⟨g2, 0, none⟩) (l.length + 1) c2) (l ++ [x]) → W.grownBy w' v.ownBlock → wpList P ops Q rest (a.put o.dst (.slice (some ⟨g2, 0, none⟩) (l.length + 1) c2)) w') : wpList P ops Q (o :: rest) a W := by
  refine E.append hgd s y ho hty base v l hs hI ⟨g1, 0, none⟩ 1 1 [x] rfl (by omega) hy ?_ hl hb h
  intro j u hj
  rw [E.cells_one] at hj
  rw [addr_add, cell_of_row W g1 _ cs _ _ hc, ← Array.getElem?_toList, hcs, Nat.zero_add]
  exact hj
theorem Own.grown {w0 W : World} {S : Nat → Prop} (hb : But S w0 W) (h : E.Own W base v l) (hg : W.grownBy w' v.ownBlock) (h0 : w0.heap.size ≤ base) : But S w0 w' := hb.grow hg h h0
end El
end Go.Proofs.Ytinhlaiogkmkfaa.G
