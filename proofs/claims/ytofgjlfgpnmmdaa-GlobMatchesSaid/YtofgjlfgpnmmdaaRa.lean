/- The reference's pieces: a row of a kind and 256 marks, as one value; a single byte's piece. -/
import Derived.Test.YtofgjlfgpnmmdaaGh
import Derived.Deep.WholeRow
import Derived.Laws.ResultCell
namespace Go.Proofs.Ytofgjlfgpnmmdaa.G
open Go.RowKit
attribute [local simp, local go_sem] alloc_drewN setCell_drewN
set_option linter.unusedVariables false
set_option linter.unusedSimpArgs false
/-- The cells of a piece: its kind, and a mark for each byte. -/
def pcL (k : Int) (f : Nat → Bool) : List Value := .int .i64 k :: (List.range 256).map fun c => .bool (f c)
def pc (k : Int) (f : Nat → Bool) : Array Value := (pcL k f).toArray
theorem pcL_length (k : Int) (f : Nat → Bool) : (pcL k f).length = 257 := by simp only [pcL, List.length_cons, List.length_map, List.length_range]
theorem pc_size (k : Int) (f : Nat → Bool) : (pc k f).size = 257 := by simp only [pc, List.size_toArray, pcL_length]
theorem pcL_kind (k : Int) (f : Nat → Bool) : (pcL k f)[0]? = some (.int .i64 k) := rfl
theorem pcL_at (k : Int) (f : Nat → Bool) (i : Nat) (h : i < 256) : (pcL k f)[i + 1]? = some (.bool (f i)) := by
  simp only [pcL, List.getElem?_cons_succ, List.getElem?_map, List.getElem?_range h, Option.map_some]
theorem pc_kind (k : Int) (f : Nat → Bool) : (pc k f)[0]? = some (.int .i64 k) := by rw [pc, List.getElem?_toArray]; exact pcL_kind k f
theorem pc_at (k : Int) (f : Nat → Bool) (i : Nat) (h : i < 256) : (pc k f)[i + 1]? = some (.bool (f i)) := by rw [pc, List.getElem?_toArray]; exact pcL_at k f i h
theorem pc_set (k : Int) (f : Nat → Bool) (i : Nat) (b : Bool) : (pc k f).setIfInBounds (i + 1) (.bool b) = pc k (fun c => if c = i then b else f c) := by
  apply Array.ext_getElem?
  intro j
  rw [Array.getElem?_setIfInBounds]
  rcases j with _ | j
  · rw [if_neg (by omega), pc_kind, pc_kind]
  · by_cases hj : j < 256
    · rw [pc_at _ _ j hj, pc_at _ _ j hj]
      by_cases e : i = j
      · subst e
        rw [if_pos rfl, if_pos (by rw [pc_size]; omega)]
        simp
      · rw [if_neg (by omega)]
        have e' : ¬ j = i := fun h => e h.symm
        simp [e']
    · have h1 : ∀ g, (pc k g)[j + 1]? = none := fun g => Array.getElem?_eq_none (by rw [pc_size]; omega)
      rw [h1, h1]
      by_cases e : i + 1 = j + 1
      · rw [if_pos e, if_neg (by rw [pc_size]; omega)]
      · rw [if_neg e]
theorem pcL_one (k : Int) (f : Nat → Bool) : ∀ v ∈ pcL k f, v.oneCell' = true := by
  intro v hv
  simp only [pcL, List.mem_cons, List.mem_map] at hv
  rcases hv with rfl | ⟨c, _, rfl⟩ <;> rfl
theorem pc_one (k : Int) (f : Nat → Bool) : (pc k f).all (·.oneCell') = true :=
  Array.all_eq_true_iff_forall_mem.2 (fun v hv => pcL_one k f v (by simpa [pc] using hv))
def nof : Nat → Bool := fun _ => false
theorem infoPc : (Try.prog.info? 47).map (fun i => (i.zero, i.size, i.bytes)) = some (some (.agg (pc 0 nof)), 257, 264) := by kernel_rfl
theorem underPc : ∃ l, Try.prog.underlying 47 = some (.struct l) := by
  have h : (match Try.prog.underlying 47 with | some (.struct _) => true | _ => false) = true := by kernel_rfl
  split at h
  · rename_i l hl
    exact ⟨l, hl⟩
  · cases h
theorem builtPc1 : Try.prog.built 47 [(0, .int .i64 1)] = some (pc 1 nof) := by kernel_rfl
theorem builtPc2 : Try.prog.built 47 [(0, .int .i64 2)] = some (pc 2 nof) := by kernel_rfl
theorem builtPc0 : Try.prog.built 47 [] = some (pc 0 nof) := by kernel_rfl
theorem zeroPc : ∀ w, (zeroValue 47).run Try.prog w = .ok (.agg (pc 0 nof)) w := by
  have h := infoPc
  cases hq : Try.prog.info? 47 with
  | none => simp [hq] at h
  | some i =>
    simp only [hq, Option.map_some, Option.some.injEq, Prod.mk.injEq] at h
    exact fun w => by simp only [zeroValue, typeInfo, hq, h.1, Sem.run_bind, Result.andThen, Sem.run_pure]; simp [go_sem, hq, h.1]
theorem sizePc (k : Int) (f : Nat → Bool) : (Try.prog.info? 47).map (·.size) = some (pc k f).size := by
  rw [pc_size]
  have h := infoPc
  cases hq : Try.prog.info? 47 with
  | none => simp [hq] at h
  | some i => simp only [hq, Option.map_some, Option.some.injEq, Prod.mk.injEq] at h; simp [h.2.1]
theorem pc_at' (k : Int) (f : Nat → Bool) (i : Nat) (h : i < 256) : (pc k f)[1 + i]? = some (.bool (f i)) := by rw [Nat.add_comm]; exact pc_at k f i h
theorem pc_set' (k : Int) (f : Nat → Bool) (i : Nat) (b : Bool) : (pc k f).setIfInBounds (1 + i) (.bool b) = pc k (fun c => if c = i then b else f c) := by rw [Nat.add_comm]; exact pc_set k f i b
theorem loadPc {ops : Array Oper} {rest : List Oper} {o : Oper} {a : Act} {w : World} {Q : Exit → Act → World → Prop} (hgd : o.guard = none) (x : Operand) (ho : o.op = .load 47 x)
    (g : Nat) (hx : a.eval x = .pointer (some ⟨g, 0, none⟩)) (k : Int) (f : Nat → Bool) (hg : w.heap[g]? = some (.cells (pc k f) 47 (0, 0)))
    (h : wpList Try.prog ops Q rest (a.put o.dst (.agg (pc k f))) w) : wpList Try.prog ops Q (o :: rest) a w := by
  obtain ⟨l, hl⟩ := underPc
  exact wpList_load_row hgd _ x ho g hx _ _ _ _ hg hl rfl (sizePc k f) h
theorem storePc {ops : Array Oper} {rest : List Oper} {o : Oper} {a : Act} {w : World} {Q : Exit → Act → World → Prop} (hgd : o.guard = none) (x y : Operand) (ho : o.op = .store 47 x y)
    (g : Nat) (k : Int) (f : Nat → Bool) (hx : a.eval x = .pointer (some ⟨g, 0, none⟩)) (hy : a.eval y = .agg (pc k f)) (k0 : Int) (f0 : Nat → Bool)
    (hg : w.heap[g]? = some (.cells (pc k0 f0) 47 (0, 0)))
    (h : wpList Try.prog ops Q rest (a.put o.dst undef) (w.setRow g (pc k f))) : wpList Try.prog ops Q (o :: rest) a w :=
  wpList_store_row hgd _ x y ho g _ hx hy _ _ hg (sizePc k f) (by rw [pc_size, pc_size]) (pc_one k f) h
theorem But.setRow {S : Nat → Prop} {w w' : World} (h : But S w w') {g : Nat} (hg : S g ∨ w.heap.size ≤ g) (cs : Array Value) : But S w (w'.setRow g cs) :=
  h.trans_ (S' := One g) ⟨rfl, rfl, rfl, by simp, fun k _ hn => setRow_other _ _ _ _ hn⟩
    (fun b hb e => by cases hg with
      | inl hp => exact e ▸ hp
      | inr hp => exact absurd hb (by unfold One at e; omega))
theorem setRow_drewN (w : World) (n g : Nat) (cs : Array Value) : (w.drewN n).setRow g cs = (w.setRow g cs).drewN n := rfl
end Go.Proofs.Ytofgjlfgpnmmdaa.G
