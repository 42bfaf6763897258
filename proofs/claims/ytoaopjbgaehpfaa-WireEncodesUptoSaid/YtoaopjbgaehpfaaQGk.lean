/- Texts of this claim, joined: words and laws that the others use. -/
import Derived.WalkKit
import Derived.Deep.Draws
import Derived.Lib.Hide
import Derived.OpenShut
import Derived.SizedLaws
import Derived.DataReads
import Derived.WideShapes
import Derived.Test.YtoaopjbgaehpfaaRows
import Derived.Test.YtoaopjbgaehpfaaProg
import Derived.Deep.LoopGhost
import Derived.Outline
import Derived.WalkLawsBesides
import Derived.Deep.QuietTactic
import Derived.BigQuiet
import Derived.Laws.EntriesVeiled
import Derived.OwnWalk
import Derived.Laws.AppendOwn
import Derived.Deep.AppendLies
import Derived.Deep.RegionHeld3
import Derived.Deep.DeepCutAuto
import Derived.Deep.CutBlock
section
/- Plain words on worlds that the walks of this seat use: what is kept but for some blocks. -/
namespace Go.Proofs.Ytoaopjbgaehpfaa.G
open Go.RowKit
/-- w' is w but for new blocks and for what the blocks of S hold. -/
structure But (S : Nat → Prop) (w w' : World) : Prop where
  os : w'.os = w.os
  tape : w'.tape = w.tape
  output : w'.output = w.output
  size : w.heap.size ≤ w'.heap.size
  block : ∀ k, k < w.heap.size → ¬ S k → w'.heap[k]? = w.heap[k]?
def No : Nat → Prop := fun _ => False
def One (g : Nat) : Nat → Prop := fun k => k = g
theorem one_self (g : Nat) : One g g := rfl
namespace But
variable {S S' : Nat → Prop} {w w' w'' : World}
theorem refl (S : Nat → Prop) (w : World) : But S w w := ⟨rfl, rfl, rfl, Nat.le_refl _, fun _ _ _ => rfl⟩
theorem trans_ (h : But S w w') (k : But S' w' w'') (hs : ∀ b, b < w.heap.size → S' b → S b) : But S w w'' :=
  ⟨k.os.trans h.os, k.tape.trans h.tape, k.output.trans h.output, Nat.le_trans h.size k.size,
    fun i hi hn => (k.block i (Nat.lt_of_lt_of_le hi h.size) (fun c => hn (hs i hi c))).trans (h.block i hi hn)⟩
theorem trans (h : But S w w') (k : But S w' w'') : But S w w'' := h.trans_ k (fun _ _ c => c)
theorem mono (h : But S w w') (hs : ∀ b, b < w.heap.size → S b → S' b) : But S' w w' :=
  ⟨h.os, h.tape, h.output, h.size, fun i hi hn => h.block i hi (fun c => hn (hs i hi c))⟩
theorem drew (h : But S w w') : But S w w'.drew := ⟨h.os, h.tape, h.output, h.size, h.block⟩
theorem drewN (h : But S w w') (n : Nat) : But S w (w'.drewN n) := ⟨h.os, h.tape, h.output, h.size, h.block⟩
theorem alloc (h : But S w w') (o : Obj) : But S w (w'.alloc o) :=
  h.trans ⟨rfl, rfl, rfl, by simp, fun k hk _ => Below.heap_alloc _ _ _ hk⟩
theorem setCell (h : But S w w') {p : Addr} (hp : S p.block ∨ w.heap.size ≤ p.block) (u : Value) : But S w (w'.setCell p u) :=
  h.trans_ (S' := One p.block) ⟨rfl, rfl, rfl, by simp [World.setCell], fun k _ hn => Below.heap_setCell _ _ _ _ hn⟩
    (fun b hb e => by cases hp with
      | inl hp => exact e ▸ hp
      | inr hp => exact absurd hb (by unfold One at e; omega))
theorem set1 {g : Nat} (h : But (One g) w w') (i : Nat) (u : Value) : But (One g) w (w'.setCell ⟨g, i, none⟩ u) := h.setCell (p := ⟨g, i, none⟩) (.inl (one_self g)) u
theorem of_below (h : Below w.heap.size w w') : But S w w' := ⟨h.os, h.tape, h.output, h.size, fun k hk _ => h.block k hk⟩
theorem below (h : But S w w') (hs : ∀ b, b < w.heap.size → ¬ S b) : Below w.heap.size w w' := ⟨h.os, h.tape, h.output, h.size, fun k hk => h.block k hk (hs k hk)⟩
theorem belowNo (h : But No w w') : Below w.heap.size w w' := h.below (fun _ _ c => c)
theorem cell (h : But S w w') {p : Addr} (hp : p.block < w.heap.size) (hn : ¬ S p.block) : w'.cell? p = w.cell? p := World.cell?_of_block (w := w) (h.block p.block hp hn)
theorem frozen (h : But S w w') {p : Addr} (hp : p.block < w.heap.size) (hn : ¬ S p.block) : w'.frozen? p = w.frozen? p := World.frozen?_of_block (w := w) (h.block p.block hp hn)
theorem cell_some (h : But S w w') {p : Addr} {v : Value} (hc : w.cell? p = some v) (hn : ¬ S p.block) : w'.cell? p = some v := (h.cell (block_lt_of_cell hc) hn).trans hc
theorem grown {row : Option Nat} (h : But S w w') (hg : w'.grownBy w'' row) (hr : ∀ k, row = some k → S k ∨ w.heap.size ≤ k) : But S w w'' :=
  h.trans_ (S' := fun k => some k = row) ⟨hg.os, hg.tape, hg.output, hg.size, fun k hk hn => hg.block k hk hn⟩
    (fun b hb e => (hr b e.symm).resolve_right (by omega))
end But
theorem alloc_drewN (w : World) (n : Nat) (o : Obj) : (w.drewN n).alloc o = (w.alloc o).drewN n := rfl
theorem setCell_drewN (w : World) (n : Nat) (a : Addr) (v : Value) : (w.drewN n).setCell a v = (w.setCell a v).drewN n := rfl
theorem blkset {w : World} {g : Nat} {cs : Array Value} {t : TypeId} (hb : w.heap[g]? = some (.cells cs t (0, 0))) (i : Nat) (u : Value) :
    (w.setCell ⟨g, i, none⟩ u).heap[g]? = some (.cells (cs.setIfInBounds i u) t (0, 0)) := heap_setCell_same w g i cs t u hb
theorem blkfar {w : World} {g : Nat} {o : Obj} (hb : w.heap[g]? = some o) {p : Addr} (hne : g ≠ p.block) (u : Value) : (w.setCell p u).heap[g]? = some o := (Below.heap_setCell _ _ _ _ hne).trans hb
theorem blkold {w : World} {g : Nat} {o : Obj} (hb : w.heap[g]? = some o) (x : Obj) : (w.alloc x).heap[g]? = some o := (Below.heap_alloc _ _ _ (lt_of_block hb)).trans hb
theorem blkcell {w : World} {g : Nat} {cs : Array Value} {t : TypeId} (hb : w.heap[g]? = some (.cells cs t (0, 0))) (i : Nat) (h : i < cs.size) : w.cell? ⟨g, i, none⟩ = some cs[i] := by
  rw [cell_of_row w g i cs t (0, 0) hb, Array.getElem?_eq_getElem h]
theorem blkfree {w : World} {g : Nat} {cs : Array Value} {t : TypeId} (hb : w.heap[g]? = some (.cells cs t (0, 0))) (i : Nat) : w.frozen? ⟨g, i, none⟩ = false := frozen_of_row w g i cs t hb
theorem enters {P : Program} {F : FuncId} {fn : Func} (hf : P.funcs[F]? = some fn) (h1 : (fn.name == "runtime.NumGoroutine") = false) (h2 : fn.body.isSome = true) : ∀ (args : Array Value) (w : World), (callFunc F args).run P w = .ok (.enter F args) w := by
  intro args w
  obtain ⟨c, hc⟩ := Option.isSome_iff_exists.1 h2
  simp only [beq_eq_false_iff_ne] at h1
  simp [callFunc, go_sem, hf, h1, hc]
theorem own_slice {w : World} {base : Nat} {e : TypeId} {size n : Nat} {v : Value} {xs : List Value} (h : w.ownsRow base e size v n xs) : ∃ A c, v = .slice A n c := by
  rcases h.2 with ⟨rfl, rfl⟩ | ⟨g, cap, cur, rfl, _⟩
  · exact ⟨_, _, rfl⟩
  · exact ⟨_, _, rfl⟩
theorem own_at {w w' : World} {base : Nat} {e : TypeId} {size n : Nat} {v : Value} {xs : List Value} (h : w.ownsRow base e size v n xs) (hm : ∀ k, v.ownBlock = some k → w'.heap[k]? = w.heap[k]?) : w'.ownsRow base e size v n xs := by
  obtain ⟨h1, h2⟩ := h
  refine ⟨h1, ?_⟩
  rcases h2 with h2 | ⟨g, cap, cur, rfl, hg, hh, r⟩
  · exact .inl h2
  · exact .inr ⟨g, cap, cur, rfl, hg, (hm g (by simp [Value.ownBlock])).trans hh, r⟩
theorem own_but {w w' : World} {base : Nat} {e : TypeId} {size n : Nat} {v : Value} {xs : List Value} {S : Nat → Prop} (h : w.ownsRow base e size v n xs) (hb : But S w w') (hn : ∀ k, base ≤ k → k < w.heap.size → ¬ S k) : w'.ownsRow base e size v n xs :=
  own_at h fun k hk => hb.block k (h.lt k hk).2 (hn k (h.lt k hk).1 (h.lt k hk).2)
theorem own_mono {w : World} {base base' : Nat} {e : TypeId} {size n : Nat} {v : Value} {xs : List Value} (h : w.ownsRow base e size v n xs) (hb : base' ≤ base) : w.ownsRow base' e size v n xs := by
  obtain ⟨h1, h2⟩ := h
  refine ⟨h1, ?_⟩
  rcases h2 with h2 | ⟨g, cap, cur, rfl, hg, r⟩
  · exact .inl h2
  · exact .inr ⟨g, cap, cur, rfl, Nat.le_trans hb hg, r⟩
/-- A block below the row's base, behind an append to the row. -/
theorem blk_grown {w w' : World} {base : Nat} {e : TypeId} {size n g : Nat} {v : Value} {xs : List Value} {o : Obj} (hb : w.heap[g]? = some o) (hw : w.grownBy w' v.ownBlock) (h : w.ownsRow base e size v n xs) (hg : g < base) : w'.heap[g]? = some o :=
  (hw.block g (lt_of_block hb) (fun e => by have := (h.lt g e.symm).1; omega)).trans hb
theorem But.grow {w0 w w' : World} {S : Nat → Prop} {base : Nat} {e : TypeId} {size n : Nat} {v : Value} {xs : List Value} (hb : But S w0 w) (hw : w.grownBy w' v.ownBlock) (h : w.ownsRow base e size v n xs) (hg : w0.heap.size ≤ base) : But S w0 w' :=
  hb.grown hw (fun k hk => .inr (Nat.le_trans hg (h.lt k hk).1))
end Go.Proofs.Ytoaopjbgaehpfaa.G
end
section
/- Arguments opened: whatever reads as data of a type lies so. -/
namespace Go.Proofs.Ytoaopjbgaehpfaa.G
open Go.RowKit
set_option linter.unusedVariables false
set_option linter.unusedSimpArgs false
abbrev Sees (α : Type) := World → α → List Value → Prop
def seesInt (k : IntKind) : Sees Int := fun _ n cs => cs = [.int k n]
def seesBool : Sees Bool := fun _ b cs => cs = [.bool b]
def seesString : Sees ByteArray := fun _ s cs => cs = [.string s]
def seesRow {α : Type} (K : Sees α) (sz : Nat) (w : World) (A : Option Addr) (l : List α) : Prop :=
  ∀ i (hi : i < l.length), ∃ ad, A = some ad ∧ ∃ cs, K w l[i] cs ∧ ∀ j u, cs[j]? = some u → w.cell? ((ad.add (i * sz)).add j) = some u
def seesSlice {α : Type} (K : Sees α) (sz : Nat) : Sees (List α) := fun w l cs => ∃ A c, cs = [.slice A l.length c] ∧ l.length ≤ c ∧ c ≤ 9223372036854775807 ∧ seesRow K sz w A l
def seesPair {α β : Type} (K : Sees α) (K' : Sees β) : Sees (α × β) := fun w p cs => ∃ c d, cs = c ++ d ∧ K w p.1 c ∧ K' w p.2 d
section
variable {P : Program} {t e : TypeId} {α β : Type} {K : Sees α} {bd bd' : α → Prop}
theorem list_ofK {Q : Nat → α → Prop} : ∀ n, (∀ i, i < n → ∃ z, Q i z) → ∃ xs : List α, xs.length = n ∧ ∀ i x, xs[i]? = some x → Q i x := by
  intro n
  induction n with
  | zero => intro _; exact ⟨[], rfl, fun i x h => by simp at h⟩
  | succ n ih =>
    intro h
    obtain ⟨xs, hl, hq⟩ := ih (fun i hi => h i (by omega))
    obtain ⟨z, hz⟩ := h n (by omega)
    refine ⟨xs ++ [z], by simp [hl], fun i x hx => ?_⟩
    by_cases hi : i < xs.length
    · rw [List.getElem?_append_left hi] at hx
      exact hq i x hx
    · rw [List.getElem?_append_right (by omega)] at hx
      have : i - xs.length = 0 := by
        cases hk : i - xs.length with
        | zero => rfl
        | succ k => rw [hk] at hx; simp at hx
      rw [this] at hx
      simp at hx
      subst hx
      rw [show i = n by omega]
      exact hz
end
end Go.Proofs.Ytoaopjbgaehpfaa.G
end
section
/- Arguments opened where the row is narrowed to a bulk: whatever reads as data of a type lies so, and is no longer than its bulk. -/
namespace Go.Proofs.Ytoaopjbgaehpfaa.G
open Go.RowKit
set_option linter.unusedVariables false
set_option linter.unusedSimpArgs false
open Go.Proofs.Ytoaopjbgaehpfaa.Rows (uptoBulk uptoBulkAll)
/-- Data of type t read as an α of kind d; bd: what its bulk says. -/
def OpensKU (P : Program) (t : TypeId) {α : Type} (K : Sees α) (bd : α → Prop) : Prop :=
  ∀ {H : Type} {enc : TypeId × Value → H} {w : World} {base : Nat} {spare : Nat → Bool} {held : Bool} {fuel : Nat} {cs : List Value} {x : DataW H × List MemPlace},
    DataW.trod enc P w base spare held fuel t cs = some x → ∃ a : α, K w a cs ∧ (uptoBulk x.1 ≤ 1048576 → bd a)
theorem bulk_mem {H : Type} {l : List (DataW H)} {y : DataW H} (hy : y ∈ l) : uptoBulk y ≤ uptoBulkAll l := by
  induction l with
  | nil => cases hy
  | cons z r ih =>
    unfold uptoBulkAll
    rcases List.mem_cons.1 hy with rfl | h
    · omega
    · have := ih h; omega
theorem bulk_pos {H : Type} (d : DataW H) : 1 ≤ uptoBulk d := by
  cases d with
  | lit l => cases l <;> simp [uptoBulk]
  | _ => simp [uptoBulk]
theorem bulk_len {H : Type} (l : List (DataW H)) : l.length ≤ uptoBulkAll l := by
  induction l with
  | nil => simp
  | cons z r ih => unfold uptoBulkAll; have := bulk_pos z; simp; omega
section
variable {P : Program} {t e : TypeId} {α β : Type} {K : Sees α} {bd bd' : α → Prop}
theorem OpensKU.mono (h : OpensKU P t K bd) (hb : ∀ a, bd a → bd' a) : OpensKU P t K bd' := by
  intro H enc w base spare held fuel cs x hx
  obtain ⟨a, h1, h2⟩ := h hx
  exact ⟨a, h1, fun hn => hb a (h2 hn)⟩
theorem opensK_intU {k : IntKind} (ht : P.underlying t = some (.int k)) : OpensKU P t (seesInt k) (fun n => (Lit.int k n).wf = true) := by
  intro H enc w base spare held fuel cs x hx
  obtain ⟨n, rfl, _, hw⟩ := DataW.trod_int ht hx
  exact ⟨n, rfl, fun _ => hw⟩
theorem opensK_boolU (ht : P.underlying t = some .bool) : OpensKU P t seesBool (fun _ => True) := by
  intro H enc w base spare held fuel cs x hx
  obtain ⟨b, rfl, _⟩ := DataW.trod_bool ht hx
  exact ⟨b, rfl, fun _ => trivial⟩
theorem opensK_stringU (ht : P.underlying t = some .string) : OpensKU P t seesString (fun s => s.size ≤ 1048576) := by
  intro H enc w base spare held fuel cs x hx
  obtain ⟨s, rfl, rfl, _⟩ := DataW.trod_string ht hx
  refine ⟨s, rfl, fun hn => ?_⟩
  simp only [uptoBulk, Array.length_toList] at hn
  have e : s.size = s.data.size := rfl
  omega
theorem OpensKU.iso {K' : Sees β} (h : OpensKU P t K bd) (g : α → β) (bd' : β → Prop) (hK : ∀ w a cs, K w a cs → K' w (g a) cs) (hb : ∀ a, bd a → bd' (g a)) : OpensKU P t K' bd' := by
  intro H enc w base spare held fuel cs x hx
  obtain ⟨a, h1, h2⟩ := h hx
  exact ⟨g a, hK _ _ _ h1, fun hn => hb a (h2 hn)⟩
theorem opensK_sliceU {sz : Nat} (ht : P.underlying t = some (.slice e)) (h : OpensKU P e K bd) (hs : P.cellsOf e = sz) : OpensKU P t (seesSlice K sz) (fun xs => (∀ a ∈ xs, bd a) ∧ xs.length ≤ 1048576) := by
  intro H enc w base spare held fuel cs x hx
  rcases DataW.trod_slice ht hx with ⟨rfl, rfl⟩ | ⟨a, len, cap, elems, rest, n, _, rfl, rfl, hb, hl, hm, hlen, hel, hsp, hns⟩
  · exact ⟨[], ⟨none, 0, rfl, Nat.le_refl _, by decide, fun i hi => absurd hi (Nat.not_lt_zero i)⟩, fun _ => ⟨fun a ha => (by cases ha), (by simp)⟩⟩
  · have each : ∀ i, i < len → ∃ z : α, ∃ (c : List Value) (y : DataW H × List MemPlace), w.cells? base (a.add (i * P.cellsOf e)) (P.cellsOf e) = some c ∧ elems[i]? = some y ∧ K w z c ∧ (uptoBulk y.1 ≤ 1048576 → bd z) := by
      intro i hi
      have h1 := hel i hi
      rw [List.getElem?_eq_getElem (by omega), Option.bind_eq_some_iff] at h1
      obtain ⟨c, hc, hy⟩ := h1
      obtain ⟨z, hz, hbz⟩ := h hy
      exact ⟨z, c, _, hc, List.getElem?_eq_getElem (by omega), hz, hbz⟩
    obtain ⟨xs, hxl, hxs⟩ := list_ofK len each
    subst hxl
    refine ⟨xs, ⟨some a, cap, rfl, hl, by unfold maxLen at hm; omega, fun j hj => ⟨a, rfl, ?_⟩⟩, fun hn => ⟨fun z hz => ?_, ?_⟩⟩
    · obtain ⟨c, y, hc, _, hk, _⟩ := hxs j xs[j] (List.getElem?_eq_getElem hj)
      obtain ⟨_, hcl, hcell⟩ := World.cells?_some hc
      refine ⟨c, hk, fun i u hu => ?_⟩
      have hi : i < P.cellsOf e := by rw [← hcl]; exact (List.getElem?_eq_some_iff.1 hu).1
      have := hcell i hi
      rw [hu, hs] at this
      exact this
    · obtain ⟨j, hj⟩ := List.getElem?_of_mem hz
      obtain ⟨c, y, _, hy, _, hbz⟩ := hxs j z hj
      have h1 : uptoBulk y.1 ≤ uptoBulkAll (elems.map (·.1)) := bulk_mem (List.mem_map.2 ⟨y, List.mem_of_getElem? hy, rfl⟩)
      refine hbz ?_
      simp only [uptoBulk] at hn
      omega
    · have h1 := bulk_len (elems.map (·.1))
      simp only [uptoBulk] at hn
      simp at h1
      omega
/-- Fields that lie one behind the other, from cell o on. -/
def OpensKLU (P : Program) (fs : List Field) (o : Nat) {α : Type} (K : Sees α) (bd : α → Prop) : Prop :=
  ∀ {H : Type} {enc : TypeId × Value → H} {w : World} {base : Nat} {spare : Nat → Bool} {held : Bool} {n : Nat} {cs : List Value} (xs : List (DataW H × List MemPlace)), xs.length = fs.length →
    (∀ (i : Nat) (f : Field), fs[i]? = some f → DataW.trod enc P w base spare held n f.type ((cs.drop f.offset).take (P.cellsOf f.type)) = xs[i]?) → cs.length = o + (fs.map fun f => P.cellsOf f.type).sum →
    ∃ a : α, K w a (cs.drop o) ∧ (uptoBulkAll (xs.map (·.1)) ≤ 1048576 → bd a)
theorem opensKL_oneU {f : Field} {o : Nat} (ho : f.offset = o) (h : OpensKU P f.type K bd) : OpensKLU P [f] o K bd := by
  intro H enc w base spare held n cs xs hl hx hc
  match xs, hl with
  | [y], _ =>
    have h1 := hx 0 f rfl
    rw [ho] at h1
    have h2 : (cs.drop o).take (P.cellsOf f.type) = cs.drop o := List.take_of_length_le (by simp at hc; simp; omega)
    rw [h2] at h1
    obtain ⟨a, h3, h4⟩ := h h1
    exact ⟨a, h3, fun hm => h4 (by simpa [uptoBulkAll] using hm)⟩
theorem opensKL_consU {f : Field} {fs : List Field} {o : Nat} {K' : Sees β} {bd2 : β → Prop} (ho : f.offset = o) (h : OpensKU P f.type K bd) (hr : OpensKLU P fs (o + P.cellsOf f.type) K' bd2) : OpensKLU P (f :: fs) o (seesPair K K') (fun x => bd x.1 ∧ bd2 x.2) := by
  intro H enc w base spare held n cs xs hl hx hc
  match xs, hl with
  | y :: ys, hl =>
    have h1 := hx 0 f rfl
    rw [ho] at h1
    obtain ⟨a, h3, h4⟩ := h h1
    obtain ⟨b, h5, h6⟩ := hr ys (by simpa using hl) (fun i g hg => hx (i + 1) g hg) (by rw [hc]; simp; omega)
    refine ⟨(a, b), ⟨_, _, ?_, h3, h5⟩, fun hm => ⟨h4 ?_, h6 ?_⟩⟩
    · rw [← List.drop_drop, List.take_append_drop]
    · simp only [List.map_cons, uptoBulkAll] at hm
      omega
    · simp only [List.map_cons, uptoBulkAll] at hm
      omega
theorem opensK_structU {fs : Array Field} (ht : P.underlying t = some (.struct fs)) (hc : P.cellsOf t = (fs.toList.map fun f => P.cellsOf f.type).sum) (h : OpensKLU P fs.toList 0 K bd) : OpensKU P t K bd := by
  intro H enc w base spare held fuel cs x hx
  obtain ⟨xs, n, _, rfl, hl, hxl, hf⟩ := DataW.trod_struct ht hx
  obtain ⟨a, h1, h2⟩ := h xs (by simpa using hxl) (fun i f hi => hf i f (by simpa using hi)) (by rw [hl, hc]; omega)
  refine ⟨a, by simpa using h1, fun hn => h2 ?_⟩
  simp only [uptoBulk] at hn
  omega
end
/-- An argument, opened. -/
theorem OpensKU.arg {P : Program} {t : TypeId} {α : Type} {K : Sees α} {bd : α → Prop} (h : OpensKU P t K bd) {H : Type} {enc : TypeId × Value → H} {W : World} {base : Nat} {spare : Nat → Bool} {held : Bool} {v : Value} {dt : DataW H} {ps : List MemPlace}
    (hd : DataW.Trod enc P W base spare held t v dt ps) : ∃ a : α, K W a v.cells.toList ∧ (uptoBulk dt ≤ 1048576 → bd a) := by
  obtain ⟨fuel, hx⟩ := hd
  exact h hx
end Go.Proofs.Ytoaopjbgaehpfaa.G
end
section
/- plan's looker: its small functions. -/
namespace Go.Proofs.Ytoaopjbgaehpfaa.G
open Go.RowKit
attribute [local simp, local go_sem] alloc_drewN setCell_drewN
set_option linter.unusedVariables false
set_option linter.unusedSimpArgs false
set_option maxRecDepth 100000
/-- Is it a text's number? -/
def textB (n : Int) (nt : Nat) : Bool := decide (0 ≤ n) && decide (n < (nt : Int))
theorem text0 (g : Nat) (n : Int) (At : Option Addr) (nt ct : Nat) (w : World) (h : w.cell? ⟨g, 0, none⟩ = some (.slice At nt ct)) :
    Calls Try.prog 72 #[.pointer (some ⟨g, 0, none⟩), .int .i64 n] w fun e w' => e = .returned (.bool (textB n nt)) ∧ w = w' := by
  by_cases h0 : 0 ≤ n
  · have d0 : decide (0 ≤ n) = true := decide_eq_true h0
    have E := Lib.hid (show textB n nt = decide (n < (nt : Int)) from by unfold textB; rw [d0]; rfl)
    go_enter Try.func72, Try.ntmps72
    go_wp2_with fail
    go_ret
    exact ⟨by rw [E.out]; rfl, rfl⟩
  · have d0 : decide (0 ≤ n) = false := decide_eq_false h0
    have E := Lib.hid (show textB n nt = false from by unfold textB; rw [d0]; rfl)
    go_enter Try.func72, Try.ntmps72
    go_wp2_with fail
    go_ret
    exact ⟨by rw [E.out]; rfl, rfl⟩
def whenB (n : Int) : Bool := decide (0 ≤ n) && decide (n ≤ 3)
theorem when0 (n : Int) (w : World) : Calls Try.prog 73 #[.int .i64 n] w fun e w' => e = .returned (.bool (whenB n)) ∧ w = w' := by
  by_cases h0 : 0 ≤ n
  · have d0 : decide (0 ≤ n) = true := decide_eq_true h0
    have E := Lib.hid (show whenB n = decide (n ≤ 3) from by unfold whenB; rw [d0]; rfl)
    go_enter Try.func73, Try.ntmps73
    go_wp2_with fail
    go_ret
    exact ⟨by rw [E.out]; rfl, rfl⟩
  · have d0 : decide (0 ≤ n) = false := decide_eq_false h0
    have E := Lib.hid (show whenB n = false from by unfold whenB; rw [d0]; rfl)
    go_enter Try.func73, Try.ntmps73
    go_wp2_with fail
    go_ret
    exact ⟨by rw [E.out]; rfl, rfl⟩
def saysB (k : Int) : Bool := k == 1 || k == 2 || k == 3
theorem says0 (k : Int) (w : World) : Calls Try.prog 55 #[.int .i64 k] w fun e w' => e = .returned (.bool (saysB k)) ∧ w = w' := by
  by_cases h1 : k = 1
  · subst h1
    go_enter Try.func55, Try.ntmps55
    go_wp2_with fail
    go_ret
    exact ⟨rfl, rfl⟩
  by_cases h2 : k = 2
  · subst h2
    go_enter Try.func55, Try.ntmps55
    go_wp2_with fail
    go_ret
    exact ⟨rfl, rfl⟩
  have d1 : (k == 1) = false := by simpa using h1
  have d2 : (k == 2) = false := by simpa using h2
  have E := Lib.hid (show saysB k = (k == 3) from by unfold saysB; rw [d1, d2]; rfl)
  clear h1 h2
  go_enter Try.func55, Try.ntmps55
  go_wp2_with fail
  go_ret
  exact ⟨by rw [E.out]; rfl, rfl⟩
/-- Numbers that come in. -/
def IntsIn (w : World) (A : Option Addr) (t : List Int) : Prop := ∀ i (hi : i < t.length), ∃ ad, A = some ad ∧ w.cell? (ad.add i) = some (.int .i64 t[i])
/-- Preds: below no, and rising. -/
def predB (no : Int) (t : List Int) (i : Nat) : Bool := decide (0 ≤ t.getD i 0) && decide (t.getD i 0 < no) && (i == 0 || decide (t.getD (i - 1) 0 < t.getD i 0))
def predsB (no : Int) (t : List Int) : Bool := (List.range t.length).all (predB no t)
def EdgesAt (w : World) (t : List Int) (no : Int) (gk : Nat) (v : Value) (wr : World) : Prop := ∃ i : Nat, gk = t.length - i ∧ i ≤ t.length ∧ v = .int .i64 (i : Int) ∧ w = wr ∧ (List.range i).all (predB no t) = true
set_option maxHeartbeats 4000000 in
theorem edges0 (g : Nat) (no : Int) (A : Option Addr) (c : Nat) (t : List Int) (w : World) (h2 : w.cell? ⟨g, 2, none⟩ = some (.int .i64 no)) (h11 : w.cell? ⟨g, 11, none⟩ = some (.slice A t.length c)) (hT : IntsIn w A t) (hl : t.length ≤ 9223372036854775807) :
    Calls Try.prog 67 #[.pointer (some ⟨g, 0, none⟩)] w fun e w' => e = .returned (.int .i64 (if predsB no t = true then 0 else 174)) ∧ w = w' := by
  obtain ⟨R, hR⟩ : ∃ R, (if predsB no t = true then (0 : Int) else 174) = R := ⟨_, rfl⟩
  rw [hR]
  have HR := Lib.hid hR
  clear hR
  have HT := Lib.hid hT
  have hbad : ∀ i, i < t.length → predB no t i = false → (if predsB no t = true then (0 : Int) else 174) = 174 := fun i hi hb => by
    rw [if_neg]
    intro ha
    have := List.all_eq_true.1 ha i (List.mem_range.2 hi)
    rw [hb] at this
    cases this
  have HBAD := Lib.hid hbad
  clear hT hbad
  go_enter Try.func67, Try.ntmps67
  go_wp2_with fail
  go_loopg [11] t.length (fun gk v wr => EdgesAt w t no gk v wr)
  case atStart => exact ⟨0, rfl, Nat.zero_le _, rfl, rfl, rfl⟩
  case round =>
    obtain ⟨i, hgk, hi, rfl, rfl, hall⟩ := hrel
    have HGK := Lib.hid hgk
    have HA := Lib.hid hall
    clear hgk hall
    by_cases hlt : i < t.length
    · obtain ⟨ad, hA, k1⟩ := HT.out i hlt
      cases hA
      obtain ⟨p, hp⟩ : ∃ p, t[i] = p := ⟨_, rfl⟩
      have hpd : t.getD i 0 = p := by rw [List.getD_eq_getElem?_getD, List.getElem?_eq_getElem hlt, hp]; rfl
      rw [hp] at k1
      have HP := Lib.hid hpd
      have hnext : predB no t i = true → (List.range (i + 1)).all (predB no t) = true := fun hb => by rw [List.range_succ, List.all_append, HA.out]; simpa using hb
      have HNX := Lib.hid hnext
      have hB : predB no t i = (decide (0 ≤ p) && decide (p < no) && (i == 0 || decide (t.getD (i - 1) 0 < p))) := by unfold predB; rw [hpd]
      have HB := Lib.hid hB
      clear hp hpd hnext hB
      by_cases c0 : p < 0
      · have d0 : decide (p < 0) = true := decide_eq_true c0
        have E := Lib.hid (HR.out.symm.trans <| HBAD.out i hlt (by rw [HB.out, decide_eq_false (by omega)]; rfl))
        go_wp2_with fail
        all_goals
          go_ret
          exact ⟨by rw [E.out]; rfl, rfl⟩
      have d0 : decide (p < 0) = false := decide_eq_false c0
      by_cases c1 : no ≤ p
      · have d1 : decide (no ≤ p) = true := decide_eq_true c1
        have E := Lib.hid (HR.out.symm.trans <| HBAD.out i hlt (by rw [HB.out, decide_eq_false (show ¬ p < no by omega), Bool.and_false]; rfl))
        go_wp2_with fail
        all_goals
          go_ret
          exact ⟨by rw [E.out]; rfl, rfl⟩
      have d1 : decide (no ≤ p) = false := decide_eq_false c1
      by_cases c2 : i = 0
      · subst c2
        have k1' : w.cell? ad = some (.int .i64 p) := k1
        have E := Lib.hid (HNX.out (by rw [HB.out, decide_eq_true (show 0 ≤ p by omega), decide_eq_true (show p < no by omega)]; rfl))
        go_wp2_with fail
        go_roundg (t.length - 1)
        case measure => rw [HGK.out]; omega
        case rel => exact ⟨1, rfl, by omega, by go_num, rfl, E.out⟩
      obtain ⟨m, rfl⟩ : ∃ m, i = m + 1 := ⟨i - 1, by omega⟩
      have k1' : w.cell? ⟨ad.block, ad.off + (m + 1), none⟩ = some (.int .i64 p) := by
        unfold Addr.add at k1
        rw [if_neg (by omega)] at k1
        exact k1
      obtain ⟨ad2, hA2, k2⟩ := HT.out m (by omega)
      cases hA2
      obtain ⟨q, hq⟩ : ∃ q, t[m] = q := ⟨_, rfl⟩
      have hqd : t.getD m 0 = q := by rw [List.getD_eq_getElem?_getD, List.getElem?_eq_getElem (by omega), hq]; rfl
      rw [hq] at k2
      have HB2 := Lib.hid (show predB no t (m + 1) = decide (q < p) from by rw [HB.out, decide_eq_true (show 0 ≤ p by omega), decide_eq_true (show p < no by omega), Nat.add_sub_cancel, hqd]; rfl)
      have d3 : decide ((0 : Int) < ((m + 1 : Nat) : Int)) = true := decide_eq_true (by omega)
      have d3' : decide ((0 : Int) < (m : Int) + 1) = true := decide_eq_true (by omega)
      clear hq hqd c2
      by_cases c4 : p ≤ q
      · have d4 : decide (p ≤ q) = true := decide_eq_true c4
        have E := Lib.hid (HR.out.symm.trans <| HBAD.out (m + 1) hlt (by rw [HB2.out, decide_eq_false (by omega)]))
        go_wp2_with fail
        all_goals
          go_ret
          exact ⟨by rw [E.out]; rfl, rfl⟩
      · have d4 : decide (p ≤ q) = false := decide_eq_false c4
        have E := Lib.hid (HNX.out (by rw [HB2.out, decide_eq_true (by omega)]))
        go_wp2_with fail
        go_roundg (t.length - (m + 1 + 1))
        case measure => rw [HGK.out]; omega
        case rel => exact ⟨m + 1 + 1, rfl, by omega, by go_num, rfl, E.out⟩
    · obtain rfl : i = t.length := by omega
      have E := Lib.hid (HR.out.symm.trans <| show (if predsB no t = true then (0 : Int) else 174) = 0 from if_pos HA.out)
      go_wp2_with fail
      go_ret
      exact ⟨by rw [E.out]; rfl, rfl⟩
end Go.Proofs.Ytoaopjbgaehpfaa.G
end
section
/- The pattern reader's small methods: end, wrong, byte; the functions of one byte. -/
namespace Go.Proofs.Ytoaopjbgaehpfaa.G
open Go.RowKit
attribute [local simp, local go_sem] alloc_drewN setCell_drewN
set_option linter.unusedVariables false
def bt (s : ByteArray) (i : Nat) : Int := if h : i < s.size then ((s[i]'h).toNat : Int) else 0
theorem bt_at (s : ByteArray) (i : Nat) : ∀ h : i < s.size, ((s[i]'h).toNat : Int) = bt s i := fun h => by simp [bt, h]
theorem bt_range (s : ByteArray) (i : Nat) : 0 ≤ bt s i ∧ bt s i ≤ 255 := by
  unfold bt
  split
  · rename_i h
    have := (s[i]'h).toNat_lt
    omega
  · omega
/-- The reader at block g: its pattern, its place, its first wrong place. -/
def Rd (w : World) (g : Nat) (p : ByteArray) (a b : Int) : Prop := w.heap[g]? = some (.cells #[.string p, .int .i64 a, .int .i64 b] 136 (0, 0))
namespace Rd
variable {w w' : World} {g : Nat} {p : ByteArray} {a b : Int}
theorem c0 (h : Rd w g p a b) : w.cell? ⟨g, 0, none⟩ = some (.string p) := blkcell h 0 (by simp)
theorem c1 (h : Rd w g p a b) : w.cell? ⟨g, 1, none⟩ = some (.int .i64 a) := blkcell h 1 (by simp)
theorem c2 (h : Rd w g p a b) : w.cell? ⟨g, 2, none⟩ = some (.int .i64 b) := blkcell h 2 (by simp)
theorem fr (h : Rd w g p a b) (i : Nat) : w.frozen? ⟨g, i, none⟩ = false := blkfree h i
theorem lt (h : Rd w g p a b) : g < w.heap.size := lt_of_block h
theorem set1 (h : Rd w g p a b) (x : Int) : Rd (w.setCell ⟨g, 1, none⟩ (.int .i64 x)) g p x b := by
  have := blkset h 1 (.int .i64 x); simpa [Rd] using this
theorem set2 (h : Rd w g p a b) (x : Int) : Rd (w.setCell ⟨g, 2, none⟩ (.int .i64 x)) g p a x := by
  have := blkset h 2 (.int .i64 x); simpa [Rd] using this
theorem far (h : Rd w g p a b) {q : Addr} (hne : g ≠ q.block) (u : Value) : Rd (w.setCell q u) g p a b := blkfar h hne u
theorem alloc (h : Rd w g p a b) (o : Obj) : Rd (w.alloc o) g p a b := blkold h o
theorem drew (h : Rd w g p a b) : Rd w.drew g p a b := h
theorem drewN (h : Rd w g p a b) (n : Nat) : Rd (w.drewN n) g p a b := h
theorem but (h : Rd w g p a b) {S : Nat → Prop} (hb : But S w w') (hn : ¬ S g) : Rd w' g p a b := (hb.block g h.lt hn).trans h
end Rd
set_option maxHeartbeats 400000 in
theorem end_ (g : Nat) (p : ByteArray) (a b : Int) (w : World) (h : Rd w g p a b) (hp : p.size ≤ 1000) :
    Calls Try.prog 99 #[.pointer (some ⟨g, 0, none⟩)] w fun e w' => e = .returned (.bool (decide ((p.size : Int) ≤ a))) ∧ ∃ n, w' = w.drewN n := by
  have h0 := h.c0
  have h1 := h.c1
  go_enter Try.func99, Try.ntmps99
  go_wp2
  repeat (go_quiet (fail); try go_wp2)
  go_ret
  exact ⟨rfl, _, rfl⟩
theorem end_no (g : Nat) (p : ByteArray) (a b : Int) (w : World) (h : Rd w g p a b) (hp : p.size ≤ 1000) (ha : a < p.size) :
    Calls Try.prog 99 #[.pointer (some ⟨g, 0, none⟩)] w fun e w' => e = .returned (.bool false) ∧ ∃ n, w' = w.drewN n :=
  (end_ g p a b w h hp).mono fun e w' ⟨he, hw⟩ => ⟨by rw [he, decide_eq_false (by omega)], hw⟩
theorem end_yes (g : Nat) (p : ByteArray) (a b : Int) (w : World) (h : Rd w g p a b) (hp : p.size ≤ 1000) (ha : (p.size : Int) ≤ a) :
    Calls Try.prog 99 #[.pointer (some ⟨g, 0, none⟩)] w fun e w' => e = .returned (.bool true) ∧ ∃ n, w' = w.drewN n :=
  (end_ g p a b w h hp).mono fun e w' ⟨he, hw⟩ => ⟨by rw [he, decide_eq_true (by omega)], hw⟩
def wrongAt (bad at_ : Int) : Int := if bad < 0 then at_ else if at_ < bad then at_ else bad
set_option maxHeartbeats 400000 in
theorem wrong (g : Nat) (p : ByteArray) (a b at_ : Int) (w : World) (h : Rd w g p a b) :
    Calls Try.prog 107 #[.pointer (some ⟨g, 0, none⟩), .int .i64 at_] w fun e w' => e = .returned (.tuple #[]) ∧ But (One g) w w' ∧ Rd w' g p a (wrongAt b at_) := by
  have h2 := h.c2
  have f2 := h.fr 2
  by_cases e1 : b < 0
  · have hs := h.set2 at_
    have E := Lib.hid (show wrongAt b at_ = at_ from if_pos e1)
    go_enter Try.func107, Try.ntmps107
    go_wp2
    go_end0
    exact ⟨rfl, (But.refl _ _).set1 _ _, by rw [E.out]; exact hs⟩
  · by_cases e2 : at_ < b
    · have hs := h.set2 at_
      have E := Lib.hid (show wrongAt b at_ = at_ from (if_neg e1).trans (if_pos e2))
      go_enter Try.func107, Try.ntmps107
      go_wp2
      go_end0
      exact ⟨rfl, (But.refl _ _).set1 _ _, by rw [E.out]; exact hs⟩
    · have E := Lib.hid (show wrongAt b at_ = b from (if_neg e1).trans (if_neg e2))
      go_enter Try.func107, Try.ntmps107
      go_wp2
      go_end0
      exact ⟨rfl, But.refl _ _, by rw [E.out]; exact h⟩
def byteV (p : ByteArray) (a : Nat) : Int := if bt p a = 92 then (if p.size ≤ a + 1 then 0 else bt p (a + 1)) else bt p a
def byteA (p : ByteArray) (a : Nat) : Nat := if bt p a = 92 then (if p.size ≤ a + 1 then a + 1 else a + 2) else a + 1
def byteB (p : ByteArray) (a : Nat) (b : Int) : Int := if bt p a = 92 then (if p.size ≤ a + 1 then wrongAt b a else b) else b
set_option maxHeartbeats 1000000 in
theorem byte_ (g : Nat) (p : ByteArray) (a : Nat) (b : Int) (w : World) (h : Rd w g p a b) (hp : p.size ≤ 1000) (ha : a < p.size) :
    Calls Try.prog 104 #[.pointer (some ⟨g, 0, none⟩)] w fun e w' => e = .returned (.int .u8 (byteV p a)) ∧ But (One g) w w' ∧ Rd w' g p (byteA p a : Nat) (byteB p a b) := by
  have h0 := h.c0
  have h1 := h.c1
  have f1 := h.fr 1
  have hb := bt_at p a ha
  have hs := h.set1 ((a : Int) + 1)
  by_cases e1 : bt p a = 92
  · have e1' : (bt p a == 92) = true := by simp [e1]
    have e1n : (bt p a != 92) = false := by simp [e1]
    by_cases e2 : p.size ≤ a + 1
    · have E := Lib.hid (show byteV p a = 0 ∧ byteA p a = a + 1 ∧ byteB p a b = wrongAt b a from by unfold byteV byteA byteB; simp [e1, e2])
      clear e1
      go_enter Try.func104, Try.ntmps104
      go_wp2_with fail
      go_quiet (fail)
      go_wp2_with fail
      refine (end_ g p ((a : Int) + 1) b _ (hs.drewN _) hp).mono ?_
      rintro e w1 ⟨rfl, n, rfl⟩
      go_wp2_with fail
      refine (wrong g p ((a : Int) + 1) b a _ (hs.drewN _)).mono ?_
      rintro e w2 ⟨rfl, hb2, hr2⟩
      go_wp2_with fail
      go_ret
      exact ⟨by rw [E.out.1]; rfl, (((But.refl _ _).set1 _ _).drewN _).trans hb2, by rw [E.out.2.1, E.out.2.2]; exact hr2⟩
    · have E := Lib.hid (show byteV p a = bt p (a + 1) ∧ byteA p a = a + 2 ∧ byteB p a b = b from by unfold byteV byteA byteB; simp [e1, e2])
      have hb2 := bt_at p (a + 1) (by omega)
      have hs2 := hs.set1 ((a : Int) + 2)
      have f1' := hs.fr 1
      clear e1
      go_enter Try.func104, Try.ntmps104
      go_wp2_with fail
      go_quiet (fail)
      go_wp2_with fail
      refine (end_ g p ((a : Int) + 1) b _ (hs.drewN _) hp).mono ?_
      rintro e w1 ⟨rfl, n, rfl⟩
      go_wp2_with fail
      repeat (go_quiet (fail); try go_wp2)
      go_ret
      exact ⟨by rw [E.out.1]; rfl, by repeat (first | exact But.refl _ _ | apply But.drewN | apply But.set1), by rw [E.out.2.1, E.out.2.2]; repeat (first | exact hs2 | apply Rd.drewN | exact Rd.set1 hs _ | exact Rd.set1 h _)⟩
  · have e1' : (bt p a == 92) = false := by simp [e1]
    have e1n : (bt p a != 92) = true := by simp [e1]
    have E := Lib.hid (show byteV p a = bt p a ∧ byteA p a = a + 1 ∧ byteB p a b = b from by unfold byteV byteA byteB; simp [e1])
    clear e1
    go_enter Try.func104, Try.ntmps104
    go_wp2_with fail
    go_quiet (fail)
    go_wp2_with fail
    go_ret
    exact ⟨by rw [E.out.1]; rfl, (((But.refl _ _).set1 _ _).drewN _), by rw [E.out.2.1, E.out.2.2]; exact hs⟩
end Go.Proofs.Ytoaopjbgaehpfaa.G
end
section
/- Names of variables: the walks of scalar's and expr's tests. -/
namespace Go.Proofs.Ytoaopjbgaehpfaa.G
open Go.RowKit
attribute [local simp, local go_sem] alloc_drewN setCell_drewN
set_option linter.unusedVariables false
set_option linter.unusedSimpArgs false
def letterB (c : Int) : Bool := (decide (97 ≤ c) && decide (c ≤ 122)) || (decide (65 ≤ c) && decide (c ≤ 90)) || (decide (48 ≤ c) && decide (c ≤ 57)) || c == 95
set_option maxHeartbeats 1000000 in
theorem letter0 (c : Int) (h0 : 0 ≤ c) (h9 : c ≤ 255) (w : World) : Calls Try.prog 83 #[.int .u8 c] w fun e w' => e = .returned (.bool (letterB c)) ∧ w = w' := by
  have hc : (0 ≤ c ∧ c ≤ 47) ∨ (48 ≤ c ∧ c ≤ 57) ∨ (58 ≤ c ∧ c ≤ 64) ∨ (65 ≤ c ∧ c ≤ 90) ∨ (91 ≤ c ∧ c ≤ 94) ∨ (95 ≤ c ∧ c ≤ 95) ∨ (96 ≤ c ∧ c ≤ 96) ∨ (97 ≤ c ∧ c ≤ 122) ∨ (123 ≤ c ∧ c ≤ 255) := by omega
  rcases hc with ⟨h1, h2⟩ | ⟨h1, h2⟩ | ⟨h1, h2⟩ | ⟨h1, h2⟩ | ⟨h1, h2⟩ | ⟨h1, h2⟩ | ⟨h1, h2⟩ | ⟨h1, h2⟩ | ⟨h1, h2⟩
  · have E := Lib.hid (show letterB c = false from by unfold letterB; simp; omega)
    have : decide (97 ≤ c) = false := by simp; omega
    have : ¬ (97 ≤ c) := by omega
    have : decide (c ≤ 122) = true := by simp; omega
    have : c ≤ 122 := by omega
    have : decide (65 ≤ c) = false := by simp; omega
    have : ¬ (65 ≤ c) := by omega
    have : decide (c ≤ 90) = true := by simp; omega
    have : c ≤ 90 := by omega
    have : decide (48 ≤ c) = false := by simp; omega
    have : ¬ (48 ≤ c) := by omega
    have : decide (c ≤ 57) = true := by simp; omega
    have : c ≤ 57 := by omega
    have : (c == 95) = false := by simp; omega
    go_enter Try.func83, Try.ntmps83
    go_wp2
    go_ret
    exact ⟨by rw [E.out]; rfl, rfl⟩
  · have E := Lib.hid (show letterB c = true from by unfold letterB; simp; omega)
    have : decide (97 ≤ c) = false := by simp; omega
    have : ¬ (97 ≤ c) := by omega
    have : decide (c ≤ 122) = true := by simp; omega
    have : c ≤ 122 := by omega
    have : decide (65 ≤ c) = false := by simp; omega
    have : ¬ (65 ≤ c) := by omega
    have : decide (c ≤ 90) = true := by simp; omega
    have : c ≤ 90 := by omega
    have : decide (48 ≤ c) = true := by simp; omega
    have : 48 ≤ c := by omega
    have : decide (c ≤ 57) = true := by simp; omega
    have : c ≤ 57 := by omega
    have : (c == 95) = false := by simp; omega
    go_enter Try.func83, Try.ntmps83
    go_wp2
    go_ret
    exact ⟨by rw [E.out]; rfl, rfl⟩
  · have E := Lib.hid (show letterB c = false from by unfold letterB; simp; omega)
    have : decide (97 ≤ c) = false := by simp; omega
    have : ¬ (97 ≤ c) := by omega
    have : decide (c ≤ 122) = true := by simp; omega
    have : c ≤ 122 := by omega
    have : decide (65 ≤ c) = false := by simp; omega
    have : ¬ (65 ≤ c) := by omega
    have : decide (c ≤ 90) = true := by simp; omega
    have : c ≤ 90 := by omega
    have : decide (48 ≤ c) = true := by simp; omega
    have : 48 ≤ c := by omega
    have : decide (c ≤ 57) = false := by simp; omega
    have : ¬ (c ≤ 57) := by omega
    have : (c == 95) = false := by simp; omega
    go_enter Try.func83, Try.ntmps83
    go_wp2
    go_ret
    exact ⟨by rw [E.out]; rfl, rfl⟩
  · have E := Lib.hid (show letterB c = true from by unfold letterB; simp; omega)
    have : decide (97 ≤ c) = false := by simp; omega
    have : ¬ (97 ≤ c) := by omega
    have : decide (c ≤ 122) = true := by simp; omega
    have : c ≤ 122 := by omega
    have : decide (65 ≤ c) = true := by simp; omega
    have : 65 ≤ c := by omega
    have : decide (c ≤ 90) = true := by simp; omega
    have : c ≤ 90 := by omega
    have : decide (48 ≤ c) = true := by simp; omega
    have : 48 ≤ c := by omega
    have : decide (c ≤ 57) = false := by simp; omega
    have : ¬ (c ≤ 57) := by omega
    have : (c == 95) = false := by simp; omega
    go_enter Try.func83, Try.ntmps83
    go_wp2
    go_ret
    exact ⟨by rw [E.out]; rfl, rfl⟩
  · have E := Lib.hid (show letterB c = false from by unfold letterB; simp; omega)
    have : decide (97 ≤ c) = false := by simp; omega
    have : ¬ (97 ≤ c) := by omega
    have : decide (c ≤ 122) = true := by simp; omega
    have : c ≤ 122 := by omega
    have : decide (65 ≤ c) = true := by simp; omega
    have : 65 ≤ c := by omega
    have : decide (c ≤ 90) = false := by simp; omega
    have : ¬ (c ≤ 90) := by omega
    have : decide (48 ≤ c) = true := by simp; omega
    have : 48 ≤ c := by omega
    have : decide (c ≤ 57) = false := by simp; omega
    have : ¬ (c ≤ 57) := by omega
    have : (c == 95) = false := by simp; omega
    go_enter Try.func83, Try.ntmps83
    go_wp2
    go_ret
    exact ⟨by rw [E.out]; rfl, rfl⟩
  · have E := Lib.hid (show letterB c = true from by unfold letterB; simp; omega)
    have : decide (97 ≤ c) = false := by simp; omega
    have : ¬ (97 ≤ c) := by omega
    have : decide (c ≤ 122) = true := by simp; omega
    have : c ≤ 122 := by omega
    have : decide (65 ≤ c) = true := by simp; omega
    have : 65 ≤ c := by omega
    have : decide (c ≤ 90) = false := by simp; omega
    have : ¬ (c ≤ 90) := by omega
    have : decide (48 ≤ c) = true := by simp; omega
    have : 48 ≤ c := by omega
    have : decide (c ≤ 57) = false := by simp; omega
    have : ¬ (c ≤ 57) := by omega
    have : (c == 95) = true := by simp; omega
    go_enter Try.func83, Try.ntmps83
    go_wp2
    go_ret
    exact ⟨by rw [E.out]; rfl, rfl⟩
  · have E := Lib.hid (show letterB c = false from by unfold letterB; simp; omega)
    have : decide (97 ≤ c) = false := by simp; omega
    have : ¬ (97 ≤ c) := by omega
    have : decide (c ≤ 122) = true := by simp; omega
    have : c ≤ 122 := by omega
    have : decide (65 ≤ c) = true := by simp; omega
    have : 65 ≤ c := by omega
    have : decide (c ≤ 90) = false := by simp; omega
    have : ¬ (c ≤ 90) := by omega
    have : decide (48 ≤ c) = true := by simp; omega
    have : 48 ≤ c := by omega
    have : decide (c ≤ 57) = false := by simp; omega
    have : ¬ (c ≤ 57) := by omega
    have : (c == 95) = false := by simp; omega
    go_enter Try.func83, Try.ntmps83
    go_wp2
    go_ret
    exact ⟨by rw [E.out]; rfl, rfl⟩
  · have E := Lib.hid (show letterB c = true from by unfold letterB; simp; omega)
    have : decide (97 ≤ c) = true := by simp; omega
    have : 97 ≤ c := by omega
    have : decide (c ≤ 122) = true := by simp; omega
    have : c ≤ 122 := by omega
    have : decide (65 ≤ c) = true := by simp; omega
    have : 65 ≤ c := by omega
    have : decide (c ≤ 90) = false := by simp; omega
    have : ¬ (c ≤ 90) := by omega
    have : decide (48 ≤ c) = true := by simp; omega
    have : 48 ≤ c := by omega
    have : decide (c ≤ 57) = false := by simp; omega
    have : ¬ (c ≤ 57) := by omega
    have : (c == 95) = false := by simp; omega
    go_enter Try.func83, Try.ntmps83
    go_wp2
    go_ret
    exact ⟨by rw [E.out]; rfl, rfl⟩
  · have E := Lib.hid (show letterB c = false from by unfold letterB; simp; omega)
    have : decide (97 ≤ c) = true := by simp; omega
    have : 97 ≤ c := by omega
    have : decide (c ≤ 122) = false := by simp; omega
    have : ¬ (c ≤ 122) := by omega
    have : decide (65 ≤ c) = true := by simp; omega
    have : 65 ≤ c := by omega
    have : decide (c ≤ 90) = false := by simp; omega
    have : ¬ (c ≤ 90) := by omega
    have : decide (48 ≤ c) = true := by simp; omega
    have : 48 ≤ c := by omega
    have : decide (c ≤ 57) = false := by simp; omega
    have : ¬ (c ≤ 57) := by omega
    have : (c == 95) = false := by simp; omega
    go_enter Try.func83, Try.ntmps83
    go_wp2
    go_ret
    exact ⟨by rw [E.out]; rfl, rfl⟩
def letters (s : ByteArray) (k : Nat) : Bool := (List.range k).all fun i => letterB (bt s i)
theorem letters_zero (s : ByteArray) : letters s 0 = true := rfl
theorem letters_succ (s : ByteArray) (k : Nat) : letters s (k + 1) = (letters s k && letterB (bt s k)) := by simp [letters, List.range_succ]
def madeOk (s : ByteArray) : Bool := decide (1 ≤ s.size) && decide (s.size ≤ 64) && letters s s.size
theorem letters_no {s : ByteArray} {k : Nat} (hk : k < s.size) (h : letterB (bt s k) = false) : letters s s.size = false := by
  unfold letters
  rw [List.all_eq_false]
  exact ⟨k, List.mem_range.2 hk, by simp [h]⟩
theorem size_ne (s : ByteArray) (h : 0 < s.size) : s.toList.isEmpty = false := by
  have := ByteArray.toList_eq s
  cases hs : s.toList with
  | nil =>
    rw [hs] at this
    have h2 : s.data.toList.length = 0 := by rw [← this]; rfl
    rw [Array.length_toList] at h2
    have h3 : s.size = s.data.size := rfl
    omega
  | cons a l => rfl
theorem madeOk_no {s : ByteArray} (h : s.size = 0 ∨ 64 < s.size ∨ letters s s.size = false) : madeOk s = false := by
  unfold madeOk
  rcases h with h | h | h
  · simp [h]
  · have : ¬ s.size ≤ 64 := by omega
    simp [this]
  · simp [h]
set_option maxHeartbeats 1000000 in
theorem made0 (s : ByteArray) (w : World) (hs : s.size ≤ 9223372036854775807) : Calls Try.prog 82 #[.string s, .func (.func 83) #[] #[]] w fun e w' => e = .returned (.bool (madeOk s)) ∧ w = w' := by
  have hs2 : s.size ≤ 9223372036854775807 := by omega
  by_cases h0 : s.size = 0
  · have E := Lib.hid (madeOk_no (.inl h0))
    obtain rfl : s = ByteArray.empty := by
      apply ByteArray.ext
      exact Array.eq_empty_of_size_eq_zero (by simpa using h0)
    clear h0 hs hs2
    go_enter Try.func82, Try.ntmps82
    go_wp2
    go_ret
    exact ⟨by rw [E.out]; rfl, rfl⟩
  · have he := size_ne s (by omega)
    by_cases h1 : 64 < s.size
    · have E := Lib.hid (madeOk_no (.inr (.inl h1)))
      have h1' : (64 : Int) < (s.size : Int) := by omega
      have hd : decide ((64 : Int) < (s.size : Int)) = true := by simp; omega
      go_enter Try.func82, Try.ntmps82
      go_wp2
      go_ret
      exact ⟨by rw [E.out]; rfl, rfl⟩
    · have h1' : ¬ (64 : Int) < (s.size : Int) := by omega
      have hd : decide ((64 : Int) < (s.size : Int)) = false := by simp; omega
      go_enter Try.func82, Try.ntmps82
      go_wp2_with fail
      go_loopg [5] s.size (fun g v5 wr => ∃ k : Nat, g = s.size - k ∧ k ≤ s.size ∧ v5 = .int .i64 (k : Int) ∧ w = wr ∧ letters s k = true)
      case atStart => exact ⟨0, rfl, Nat.zero_le _, rfl, rfl, letters_zero s⟩
      case round =>
        obtain ⟨k, hg, hk, rfl, rfl, hl⟩ := hrel
        have HG := Lib.hid hg
        have HL := Lib.hid hl
        clear hg hl
        by_cases hlt : k < s.size
        · have hbt := bt_at s k hlt
          have hr := bt_range s k
          obtain ⟨b, hb⟩ : ∃ b, letterB (bt s k) = b := ⟨_, rfl⟩
          have hlet := letter0 (bt s k) hr.1 hr.2 w
          rw [hb] at hlet
          have HLet := Lib.hid hlet
          clear hlet
          cases b with
          | false =>
            have E := Lib.hid (madeOk_no (.inr (.inr (letters_no hlt hb))))
            clear hb
            go_wp2_with (go_at_call 83; refine HLet.out.mono ?_; rintro e w1 ⟨rfl, rfl⟩)
            go_ret
            exact ⟨by rw [E.out]; rfl, rfl⟩
          | true =>
            have E := Lib.hid (show letters s (k + 1) = true from by rw [letters_succ, HL.out, hb]; rfl)
            clear hb
            go_wp2_with (go_at_call 83; refine HLet.out.mono ?_; rintro e w1 ⟨rfl, rfl⟩)
            go_roundg (s.size - (k + 1))
            case measure => have := HG.out; omega
            case rel => exact ⟨k + 1, rfl, by omega, by go_num, rfl, E.out⟩
        · have E := Lib.hid (show madeOk s = true from by
            unfold madeOk
            have hkk : k = s.size := by omega
            rw [← hkk, HL.out]
            simp
            omega)
          go_wp2_with fail
          go_ret
          exact ⟨by rw [E.out]; rfl, rfl⟩
def varNameB (s : ByteArray) : Bool := madeOk s && (decide (bt s 0 < 48) || decide (57 < bt s 0))
theorem madeOk_size {s : ByteArray} (h : madeOk s = true) : 1 ≤ s.size ∧ s.size ≤ 64 := by
  unfold madeOk at h
  simp at h
  omega
set_option maxHeartbeats 1000000 in
theorem varName0 (s : ByteArray) (w : World) (hs : s.size ≤ 9223372036854775807) : Calls Try.prog 76 #[.string s] w fun e w' => e = .returned (.bool (varNameB s)) ∧ w = w' := by
  have hs2 : s.size ≤ 9223372036854775807 := by omega
  have hm := made0 s w hs
  cases hb : madeOk s with
  | false =>
    rw [hb] at hm
    have HM := Lib.hid hm
    have E := Lib.hid (show varNameB s = false from by unfold varNameB; rw [hb]; rfl)
    clear hm hb
    go_enter Try.func76, Try.ntmps76
    go_wp2_with (go_at_call 82; refine HM.out.mono ?_; rintro e w1 ⟨rfl, rfl⟩)
    go_ret
    exact ⟨by rw [E.out]; rfl, rfl⟩
  | true =>
    have hsz := madeOk_size hb
    have hbt := bt_at s 0 (by omega)
    have hr := bt_range s 0
    have hpos : 0 < s.size := by omega
    rw [hb] at hm
    have HM := Lib.hid hm
    have E := Lib.hid (show varNameB s = (decide (bt s 0 < 48) || decide (57 < bt s 0)) from by unfold varNameB; rw [hb]; rfl)
    clear hm hb
    generalize bt s 0 = c at *
    by_cases h1 : c < 48
    · have d1 : decide (c < 48) = true := by simp; omega
      have E2 := Lib.hid (show varNameB s = true from by rw [E.out, d1]; rfl)
      go_enter Try.func76, Try.ntmps76
      go_wp2_with (go_at_call 82; refine HM.out.mono ?_; rintro e w1 ⟨rfl, rfl⟩)
      go_ret
      exact ⟨by rw [E2.out]; rfl, rfl⟩
    · have d1 : decide (c < 48) = false := by simp; omega
      have E2 := Lib.hid (show varNameB s = decide (57 < c) from by rw [E.out, d1]; rfl)
      go_enter Try.func76, Try.ntmps76
      go_wp2_with (go_at_call 82; refine HM.out.mono ?_; rintro e w1 ⟨rfl, rfl⟩)
      go_ret
      exact ⟨by rw [E2.out]; rfl, rfl⟩
/-- The words that are no variables. -/
def reserved (s : ByteArray) : Bool := s.toList == [111, 114] || s.toList == [97, 110, 100] || s.toList == [110, 111, 116] || s.toList == [116, 114, 117, 101] || s.toList == [102, 97, 108, 115, 101] || s.toList == [100, 101, 102, 105, 110, 101, 100]
def variableB (s : ByteArray) : Bool := !reserved s && varNameB s
set_option maxHeartbeats 1000000 in
theorem variable0 (s : ByteArray) (w : World) (hs : s.size ≤ 9223372036854775807) : Calls Try.prog 87 #[.string s] w fun e w' => e = .returned (.bool (variableB s)) ∧ w = w' := by
  have HM := Lib.hid (varName0 s w hs)
  have HR : Hid (reserved s = (s.toList == [111, 114] || s.toList == [97, 110, 100] || s.toList == [110, 111, 116] || s.toList == [116, 114, 117, 101] || s.toList == [102, 97, 108, 115, 101] || s.toList == [100, 101, 102, 105, 110, 101, 100])) := Lib.hid rfl
  have HV := Lib.hid (show variableB s = (!reserved s && varNameB s) from rfl)
  go_enter Try.func87, Try.ntmps87
  go_wp2_with (go_at_call 76; refine HM.out.mono ?_; rintro e w1 ⟨rfl, rfl⟩)
  all_goals
    go_ret
    refine ⟨?_, rfl⟩
    rw [HV.out, HR.out]
    simp_all
end Go.Proofs.Ytoaopjbgaehpfaa.G
end
section
/- plan's looker: a job's variables. -/
namespace Go.Proofs.Ytoaopjbgaehpfaa.G
open Go.RowKit
attribute [local simp, local go_sem] alloc_drewN setCell_drewN
set_option linter.unusedVariables false
set_option linter.unusedSimpArgs false
set_option maxRecDepth 100000
theorem text0q (g : Nat) (n : Int) (At : Option Addr) (nt ct : Nat) (b : Bool) (hb : textB n nt = b) (w : World) (h : w.cell? ⟨g, 0, none⟩ = some (.slice At nt ct)) :
    Calls Try.prog 72 #[.pointer (some ⟨g, 0, none⟩), .int .i64 n] w fun e w' => e = .returned (.bool b) ∧ ∃ m, w' = w.drewN m :=
  (text0 g n At nt ct w h).mono fun e w' ⟨he, hw⟩ => ⟨by rw [he, hb], 0, hw ▸ rfl⟩
theorem varName0q (s : ByteArray) (b : Bool) (hb : varNameB s = b) (w : World) (hs : s.size ≤ 9223372036854775807) : Calls Try.prog 76 #[.string s] w fun e w' => e = .returned (.bool b) ∧ ∃ m, w' = w.drewN m :=
  (varName0 s w hs).mono fun e w' ⟨he, hw⟩ => ⟨by rw [he, hb], 0, hw ▸ rfl⟩
/-- Strings, and pairs of numbers, that come in. -/
def StrsIn (w : World) (A : Option Addr) (t : List ByteArray) : Prop := ∀ i (hi : i < t.length), ∃ ad, A = some ad ∧ w.cell? (ad.add i) = some (.string t[i])
def PairsIn (w : World) (A : Option Addr) (t : List (Int × Int)) : Prop := ∀ i (hi : i < t.length), ∃ ad, A = some ad ∧ w.cell? (ad.add (i * 2)) = some (.int .i64 t[i].1) ∧ w.cell? ⟨(ad.add (i * 2)).block, (ad.add (i * 2)).off + 1, none⟩ = some (.int .i64 t[i].2)
def strAt (ts : List ByteArray) (n : Int) : ByteArray := ts.getD n.toNat ⟨#[]⟩
def varB (ts : List ByteArray) (vs : List (Int × Int)) (i : Nat) : Bool :=
  textB (vs.getD i (0, 0)).1 ts.length && textB (vs.getD i (0, 0)).2 ts.length && varNameB (strAt ts (vs.getD i (0, 0)).1) && (i == 0 || decide ((vs.getD (i - 1) (0, 0)).1 < (vs.getD i (0, 0)).1))
def varsB (ts : List ByteArray) (vs : List (Int × Int)) : Bool := decide (vs.length ≤ 256) && (List.range vs.length).all (varB ts vs)
def VarsAt (w : World) (ts : List ByteArray) (vs : List (Int × Int)) (gk : Nat) (v : Value) (wr : World) : Prop := ∃ i : Nat, gk = vs.length - i ∧ i ≤ vs.length ∧ v = .int .i64 (i : Int) ∧ But No w wr ∧ (List.range i).all (varB ts vs) = true
set_option maxHeartbeats 8000000 in
theorem vars0 (g : Nat) (At : Option Addr) (ct : Nat) (ts : List ByteArray) (A : Option Addr) (c : Nat) (vs : List (Int × Int)) (w : World) (h0 : w.cell? ⟨g, 0, none⟩ = some (.slice At ts.length ct)) (h10 : w.cell? ⟨g, 10, none⟩ = some (.slice A vs.length c))
    (hT : StrsIn w At ts) (hV : PairsIn w A vs) (hts : ∀ s ∈ ts, s.size ≤ 9223372036854775807) (htl : ts.length ≤ 9223372036854775807) (hl : vs.length ≤ 9223372036854775807) :
    Calls Try.prog 66 #[.pointer (some ⟨g, 0, none⟩)] w fun e w' => e = .returned (.int .i64 (if varsB ts vs = true then 0 else 173)) ∧ Below w.heap.size w w' := by
  obtain ⟨R, hR⟩ : ∃ R, (if varsB ts vs = true then (0 : Int) else 173) = R := ⟨_, rfl⟩
  rw [hR]
  have HR := Lib.hid hR
  clear hR
  by_cases h256 : 256 < vs.length
  · have E := Lib.hid (HR.out.symm.trans (if_neg (by unfold varsB; rw [decide_eq_false (by omega)]; simp)))
    have d : decide ((256 : Int) < (vs.length : Int)) = true := decide_eq_true (by omega)
    have d' : (256 : Int) < (vs.length : Int) := by omega
    clear hT hV hts
    go_enter Try.func66, Try.ntmps66
    go_wp2_with fail
    go_ret
    exact ⟨by rw [E.out]; rfl, Below.refl _ _⟩
  have d : decide ((256 : Int) < (vs.length : Int)) = false := decide_eq_false (by omega)
  have d' : ¬ (256 : Int) < (vs.length : Int) := by omega
  have HT := Lib.hid hT
  have HV := Lib.hid hV
  have HS := Lib.hid hts
  have hbad : ∀ i, i < vs.length → varB ts vs i = false → (if varsB ts vs = true then (0 : Int) else 173) = 173 := fun i hi hb => by
    rw [if_neg]
    intro ha
    unfold varsB at ha
    rw [Bool.and_eq_true] at ha
    have := List.all_eq_true.1 ha.2 i (List.mem_range.2 hi)
    rw [hb] at this
    cases this
  have HBAD := Lib.hid hbad
  clear hT hV hts hbad
  go_enter Try.func66, Try.ntmps66
  go_wp2_with fail
  go_loopg [18] vs.length (fun gk v wr => VarsAt w ts vs gk v wr)
  case atStart => exact ⟨0, rfl, Nat.zero_le _, rfl, But.refl _ _, rfl⟩
  case round =>
    obtain ⟨i, hgk, hi, rfl, hb, hall⟩ := hrel
    have HGK := Lib.hid hgk
    have HBt := Lib.hid hb
    have HA := Lib.hid hall
    have c0 := hb.cell_some h0 (fun c => c)
    have c10 := hb.cell_some h10 (fun c => c)
    have hgl : g < wr.heap.size := block_lt_of_cell c0
    have hne : ¬ wr.heap.size = g := by omega
    clear hgk hb hall
    by_cases hlt : i < vs.length
    · obtain ⟨ad, hA, k1, k2⟩ := HV.out i hlt
      cases hA
      have k1' := HBt.out.cell_some k1 (fun c => c)
      have k2' := HBt.out.cell_some k2 (fun c => c)
      have hlt' : (i : Int) < (vs.length : Int) := by omega
      have dl : decide ((i : Int) < (vs.length : Int)) = true := decide_eq_true hlt'
      obtain ⟨⟨nm, vl⟩, hp⟩ : ∃ p, vs[i] = p := ⟨_, rfl⟩
      have hpd : vs.getD i (0, 0) = (nm, vl) := by rw [List.getD_eq_getElem?_getD, List.getElem?_eq_getElem hlt, hp]; rfl
      rw [hp] at k1' k2'
      dsimp only at k1' k2'
      have hnext : varB ts vs i = true → (List.range (i + 1)).all (varB ts vs) = true := fun hb => by rw [List.range_succ, List.all_append, HA.out]; simpa using hb
      have HNX := Lib.hid hnext
      have HB := Lib.hid (show varB ts vs i = (textB nm ts.length && textB vl ts.length && varNameB (strAt ts nm) && (i == 0 || decide ((vs.getD (i - 1) (0, 0)).1 < nm))) from by unfold varB; rw [hpd])
      clear hp hpd hnext k1 k2
      obtain ⟨b1, hb1⟩ : ∃ b, textB nm ts.length = b := ⟨_, rfl⟩
      have HB1 := Lib.hid hb1
      clear hb1
      go_wp2_with fail
      have hfin : ∀ n, But No w ((wr.alloc (.cells #[.int .i64 nm, .int .i64 vl] 81)).drewN n) := fun n => (HBt.out.alloc _).drewN n
      have HFin := Lib.hid hfin
      clear hfin
      cases b1 with
      | false =>
        have E := Lib.hid (HR.out.symm.trans <| HBAD.out i hlt (by rw [HB.out, HB1.out]; rfl))
        go_quiet ((go_at_call 72; ((with_reducible refine Calls.quiet_of (text0q g nm At ts.length ct false HB1.out _ ?_)); (first | assumption | (go_simp; done)))))
        go_wp2_with fail
        all_goals
          go_ret
          exact ⟨by rw [E.out]; rfl, ((HBt.out.alloc _).drewN _).belowNo⟩
      | true =>
      obtain ⟨b2, hb2⟩ : ∃ b, textB vl ts.length = b := ⟨_, rfl⟩
      have HB2 := Lib.hid hb2
      clear hb2
      cases b2 with
      | false =>
        have E := Lib.hid (HR.out.symm.trans <| HBAD.out i hlt (by rw [HB.out, HB1.out, HB2.out]; rfl))
        go_quiet ((go_at_call 72; (first | ((with_reducible refine Calls.quiet_of (text0q g nm At ts.length ct true HB1.out _ ?_)); (first | assumption | (go_simp; done))) | ((with_reducible refine Calls.quiet_of (text0q g vl At ts.length ct false HB2.out _ ?_)); (first | assumption | (go_simp; done))))))
        go_wp2_with fail
        all_goals
          go_ret
          exact ⟨by rw [E.out]; rfl, ((HBt.out.alloc _).drewN _).belowNo⟩
      | true =>
      have ht := HB1.out
      unfold textB at ht
      rw [Bool.and_eq_true, decide_eq_true_eq, decide_eq_true_eq] at ht
      obtain ⟨ht0, ht1⟩ := ht
      obtain ⟨m, rfl⟩ : ∃ m : Nat, nm = (m : Int) := ⟨nm.toNat, by omega⟩
      have hm : m < ts.length := by omega
      obtain ⟨ad2, hA2, k3⟩ := HT.out m hm
      cases hA2
      obtain ⟨tx, htx⟩ : ∃ tx, ts[m] = tx := ⟨_, rfl⟩
      have hts' : tx.size ≤ 9223372036854775807 := by rw [← htx]; exact HS.out _ (List.getElem_mem hm)
      have HTX := Lib.hid (show strAt ts (m : Int) = tx from by unfold strAt; rw [Int.toNat_natCast, List.getD_eq_getElem?_getD, List.getElem?_eq_getElem hm, htx]; rfl)
      rw [htx] at k3
      have k3' := HBt.out.cell_some k3 (fun c => c)
      have k3a : (wr.alloc (.cells #[.int .i64 (m : Int), .int .i64 vl] 81)).cell? (ad2.add m) = some (.string tx) := by
        have h := ((But.refl No wr).alloc (.cells #[.int .i64 (m : Int), .int .i64 vl] 81)).cell_some k3' (fun c => c)
        exact h
      have hmi : (m : Int) < (ts.length : Int) := by omega
      have hmb : decide ((m : Int) < (ts.length : Int)) = true := decide_eq_true hmi
      clear htx k3
      obtain ⟨b3, hb3⟩ : ∃ b, varNameB tx = b := ⟨_, rfl⟩
      have HB3 := Lib.hid hb3
      clear hb3
      cases b3 with
      | false =>
        have E := Lib.hid (HR.out.symm.trans <| HBAD.out i hlt (by rw [HB.out, HB1.out, HB2.out, HTX.out, HB3.out]; rfl))
        go_quiet (first | (go_at_call 72; (first | ((with_reducible refine Calls.quiet_of (text0q g (m : Int) (some ad2) ts.length ct true HB1.out _ ?_)); go_simp) | ((with_reducible refine Calls.quiet_of (text0q g vl (some ad2) ts.length ct true HB2.out _ ?_)); go_simp))) | (go_at_call 76; ((with_reducible refine Calls.quiet_of (varName0q tx false HB3.out _ ?_)); exact hts')))
        go_wp2_with fail
        all_goals
          go_ret
          exact ⟨by rw [E.out]; rfl, ((HBt.out.alloc _).drewN _).belowNo⟩
      | true =>
      by_cases h0i : i = 0
      · have di : decide (0 < (i : Int)) = false := decide_eq_false (by omega)
        have di' : ¬ (0 : Int) < (i : Int) := by omega
        have hok : varB ts vs i = true := by rw [HB.out, HB1.out, HB2.out, HTX.out, HB3.out, h0i]; rfl
        have HOK := Lib.hid hok
        clear hok
        go_quiet (first | (go_at_call 72; (first | ((with_reducible refine Calls.quiet_of (text0q g (m : Int) (some ad2) ts.length ct true HB1.out _ ?_)); go_simp) | ((with_reducible refine Calls.quiet_of (text0q g vl (some ad2) ts.length ct true HB2.out _ ?_)); go_simp))) | (go_at_call 76; ((with_reducible refine Calls.quiet_of (varName0q tx true HB3.out _ ?_)); exact hts')))
        go_wp2_with fail
        go_roundg (vs.length - (i + 1))
        case measure => rw [HGK.out]; omega
        case rel => exact ⟨i + 1, rfl, by omega, by go_num, HFin.out _, HNX.out HOK.out⟩
      obtain ⟨k, rfl⟩ : ∃ k, i = k + 1 := ⟨i - 1, by omega⟩
      obtain ⟨ad3, hA3, k4, k5⟩ := HV.out k (by omega)
      cases hA3
      obtain ⟨⟨q, ql⟩, hq⟩ : ∃ p, vs[k] = p := ⟨_, rfl⟩
      have hqd : vs.getD k (0, 0) = (q, ql) := by rw [List.getD_eq_getElem?_getD, List.getElem?_eq_getElem (by omega), hq]; rfl
      rw [hq] at k4
      dsimp only at k4
      have k4' := HBt.out.cell_some k4 (fun c => c)
      have k4a : (wr.alloc (.cells #[.int .i64 (m : Int), .int .i64 vl] 81)).cell? (ad.add (k * 2)) = some (.int .i64 q) :=
        ((But.refl No wr).alloc (.cells #[.int .i64 (m : Int), .int .i64 vl] 81)).cell_some k4' (fun c => c)
      have HB4 := Lib.hid (show varB ts vs (k + 1) = decide (q < (m : Int)) from by rw [HB.out, HB1.out, HB2.out, HTX.out, HB3.out, Nat.add_sub_cancel, hqd]; rfl)
      have d3 : decide ((0 : Int) < ((k + 1 : Nat) : Int)) = true := decide_eq_true (by omega)
      have d3' : decide ((0 : Int) < (k : Int) + 1) = true := decide_eq_true (by omega)
      clear hq hqd k4 k5 h0i
      by_cases c4 : (m : Int) ≤ q
      · have d4 : decide ((m : Int) ≤ q) = true := decide_eq_true c4
        have E := Lib.hid (HR.out.symm.trans <| HBAD.out (k + 1) hlt (by rw [HB4.out, decide_eq_false (by omega)]))
        go_quiet (first | (go_at_call 72; (first | ((with_reducible refine Calls.quiet_of (text0q g (m : Int) (some ad2) ts.length ct true HB1.out _ ?_)); go_simp) | ((with_reducible refine Calls.quiet_of (text0q g vl (some ad2) ts.length ct true HB2.out _ ?_)); go_simp))) | (go_at_call 76; ((with_reducible refine Calls.quiet_of (varName0q tx true HB3.out _ ?_)); exact hts')))
        go_wp2_with fail
        all_goals
          go_ret
          exact ⟨by rw [E.out]; rfl, ((HBt.out.alloc _).drewN _).belowNo⟩
      · have d4 : decide ((m : Int) ≤ q) = false := decide_eq_false c4
        have E := Lib.hid (HNX.out (by rw [HB4.out, decide_eq_true (by omega)]))
        go_quiet (first | (go_at_call 72; (first | ((with_reducible refine Calls.quiet_of (text0q g (m : Int) (some ad2) ts.length ct true HB1.out _ ?_)); go_simp) | ((with_reducible refine Calls.quiet_of (text0q g vl (some ad2) ts.length ct true HB2.out _ ?_)); go_simp))) | (go_at_call 76; ((with_reducible refine Calls.quiet_of (varName0q tx true HB3.out _ ?_)); exact hts')))
        go_wp2_with fail
        go_roundg (vs.length - (k + 1 + 1))
        case measure => rw [HGK.out]; omega
        case rel => exact ⟨k + 1 + 1, rfl, by omega, by go_num, HFin.out _, E.out⟩
    · obtain rfl : i = vs.length := by omega
      have hlt' : ¬ (vs.length : Int) < (vs.length : Int) := by omega
      have E := Lib.hid (HR.out.symm.trans <| show (if varsB ts vs = true then (0 : Int) else 173) = 0 from if_pos (by unfold varsB; rw [decide_eq_true (by omega), HA.out]; rfl))
      go_wp2_with fail
      go_ret
      exact ⟨by rw [E.out]; rfl, HBt.out.belowNo⟩
end Go.Proofs.Ytoaopjbgaehpfaa.G
end
section
/- Rows of the call's own, of any kind of element that is laid in cells: generic words and laws. -/
namespace Go.Proofs.Ytoaopjbgaehpfaa.G
open Go.RowKit
set_option linter.unusedVariables false
set_option linter.unusedSimpArgs false
/-- A kind of element: type T, slices of it Ts, its cells. -/
structure El (P : Program) (T Ts : TypeId) (α : Type) where
  enc : α → List Value
  sz : Nat
  wd : Nat
  zero : Value
  hpos : 0 < sz
  henc : ∀ x, (enc x).length = sz
  hone : ∀ x, ∀ u ∈ enc x, u.oneCell' = true
  hi : (P.info? T).map (fun i => (i.zero, i.size, i.bytes)) = some (some zero, sz, wd)
  hzs : zero.cells.size = sz
  hu : P.underlying Ts = some (.slice T)
theorem info_get {P : Program} {T : TypeId} {z : Value} {sz wd : Nat} (h : (P.info? T).map (fun i => (i.zero, i.size, i.bytes)) = some (some z, sz, wd)) : ∃ i, P.info? T = some i ∧ i.zero = some z ∧ i.size = sz ∧ i.bytes = wd := by
  cases hq : P.info? T with
  | none => simp [hq] at h
  | some i =>
    simp only [hq, Option.map_some, Option.some.injEq, Prod.mk.injEq] at h
    exact ⟨i, rfl, h.1, h.2.1, h.2.2⟩
theorem addr_add (g o j : Nat) : (⟨g, o, none⟩ : Addr).add j = ⟨g, o + j, none⟩ := by unfold Addr.add; split <;> simp_all
namespace El
variable {P : Program} {T Ts : TypeId} {α : Type} (E : El P T Ts α)
def cells (l : List α) : List Value := l.flatMap E.enc
theorem cells_length (l : List α) : (E.cells l).length = l.length * E.sz := by
  induction l with
  | nil => simp [cells]
  | cons s l ih =>
    have := E.henc s
    simp only [cells, List.flatMap_cons, List.length_append, List.length_cons] at ih ⊢
    rw [ih, this, Nat.add_mul]
    omega
theorem cells_append (l m : List α) : E.cells (l ++ m) = E.cells l ++ E.cells m := by simp [cells]
theorem cells_one (x : α) : E.cells [x] = E.enc x := by simp [cells]
theorem cells_at (l : List α) : ∀ i q j, l[i]? = some q → j < E.sz → (E.cells l)[i * E.sz + j]? = (E.enc q)[j]? := by
  induction l with
  | nil => intro i q j h; simp at h
  | cons s l ih =>
    intro i q j h hj
    have hl := E.henc s
    cases i with
    | zero =>
      simp at h
      subst h
      simp only [cells, List.flatMap_cons, Nat.zero_mul, Nat.zero_add]
      rw [List.getElem?_append_left (by omega)]
    | succ i =>
      have := ih i q j (by simpa using h) hj
      simp only [cells, List.flatMap_cons] at this ⊢
      rw [Nat.add_mul, Nat.one_mul, List.getElem?_append_right (by omega), hl, show i * E.sz + E.sz + j - E.sz = i * E.sz + j from by omega]
      exact this
theorem cells_all (l : List α) : ∀ u ∈ E.cells l, u.oneCell' = true := by
  intro u hu
  simp only [cells, List.mem_flatMap] at hu
  obtain ⟨x, _, hx⟩ := hu
  exact E.hone x u hx
/-- The slice v, of the call's own, holds the elements l. -/
def Own (w : World) (base : Nat) (v : Value) (l : List α) : Prop := w.ownsRow base T E.sz v l.length (E.cells l)
variable {E} {w w' : World} {base : Nat} {v : Value} {l : List α}
theorem own_nil (w : World) (base : Nat) : E.Own w base (.slice none 0 0) [] := by
  unfold Own
  exact World.ownsRow_nil w base T E.sz
theorem Own.but {S : Nat → Prop} (h : E.Own w base v l) (hb : But S w w') (hn : ∀ k, base ≤ k → k < w.heap.size → ¬ S k) : E.Own w' base v l := own_but h hb hn
theorem Own.new (h : E.Own w base v l) (hb : But No w w') : E.Own w' base v l := own_but h hb (fun _ _ _ c => c)
theorem Own.drewN (h : E.Own w base v l) (n : Nat) : E.Own (w.drewN n) base v l := h
theorem Own.alloc (h : E.Own w base v l) (o : Obj) : E.Own (w.alloc o) base v l := World.ownsRow.alloc h o
theorem Own.set {p : Addr} (h : E.Own w base v l) (hp : p.block < base) (u : Value) : E.Own (w.setCell p u) base v l := own_at h fun k hk => Below.heap_setCell _ _ _ _ (by have := (h.lt k hk).1; omega)
theorem Own.slice (h : E.Own w base v l) : ∃ A c, v = .slice A l.length c := own_slice h
theorem Own.lit (h : E.Own w base v l) (hl : 0 < l.length) : ∃ g c, v = .slice (some ⟨g, 0, none⟩) l.length c ∧ base ≤ g ∧ g < w.heap.size ∧ l.length ≤ c ∧ c ≤ 9223372036854775807 := by
  rcases h.2 with ⟨hv, h0⟩ | ⟨g, cap, cur, hv, hg, hh, hc, hm, hcs, ht⟩
  · omega
  · exact ⟨g, cap, hv, hg, lt_of_block hh, hc, by unfold maxLen at hm; omega⟩
theorem Own.block {g n c : Nat} (h : E.Own w base (.slice (some ⟨g, 0, none⟩) n c) l) : base ≤ g ∧ g < w.heap.size ∧ n = l.length := by
  rcases h.2 with ⟨hv, h0⟩ | ⟨g', cap, cur, hv, hg, hh, hc, hm, hcs, ht⟩
  · cases hv
  · injection hv with hA hB hC
    injection hA with hA
    injection hA with hA
    subst hA
    exact ⟨hg, lt_of_block hh, hB⟩
theorem Own.form (h : E.Own w base v l) : (v = .slice none 0 0 ∧ l = []) ∨ ∃ g c, v = .slice (some ⟨g, 0, none⟩) l.length c ∧ base ≤ g ∧ g < w.heap.size ∧ l.length ≤ c ∧ c ≤ 9223372036854775807 := by
  rcases h.2 with ⟨hv, h0⟩ | ⟨g, cap, cur, hv, hg, hh, hc, hm, hcs, ht⟩
  · exact .inl ⟨hv, List.eq_nil_of_length_eq_zero h0⟩
  · exact .inr ⟨g, cap, hv, hg, lt_of_block hh, hc, by unfold maxLen at hm; omega⟩
theorem Own.cell {g n c : Nat} (h : E.Own w base (.slice (some ⟨g, 0, none⟩) n c) l) (i : Nat) (q : α) (hi : l[i]? = some q) (j : Nat) (u : Value) (hj : (E.enc q)[j]? = some u) : w.cell? ⟨g, i * E.sz + j, none⟩ = some u := by
  rcases h with ⟨hl, ⟨hv, h0⟩ | ⟨g', cap, cur, hv, hg, hh, hc, hm, hcs, ht⟩⟩
  · cases hv
  · injection hv with hA hB hC
    injection hA with hA
    injection hA with hA
    subst hA
    have hjs : j < E.sz := by
      have := E.henc q
      have hjl := (List.getElem?_eq_some_iff.1 hj).1
      omega
    have h2 := E.cells_at l i q j hi hjs
    rw [hj] at h2
    rw [cell_of_row w g _ cur _ _ hh, ← Array.getElem?_toList]
    rw [← ht, List.getElem?_take] at h2
    split at h2
    · exact h2
    · cases h2
/-- Cells of a part of the row. -/
theorem Own.part {g n c : Nat} {l0 l1 : List α} (h : E.Own w base (.slice (some ⟨g, 0, none⟩) n c) (l0 ++ l1)) : ∀ j u, (E.cells l1)[j]? = some u → w.cell? ((⟨g, l0.length * E.sz, none⟩ : Addr).add j) = some u := by
  intro j u hj
  rcases h with ⟨hl, ⟨hv, h0⟩ | ⟨g', cap, cur, hv, hg, hh, hc, hm, hcs, ht⟩⟩
  · cases hv
  · injection hv with hA hB hC
    injection hA with hA
    injection hA with hA
    subst hA
    have h2 : (E.cells (l0 ++ l1))[l0.length * E.sz + j]? = some u := by
      rw [E.cells_append, List.getElem?_append_right (by rw [E.cells_length]; exact Nat.le_add_right _ _), E.cells_length, Nat.add_sub_cancel_left]
      exact hj
    rw [addr_add, cell_of_row w g _ cur _ _ hh, ← Array.getElem?_toList]
    rw [← ht, List.getElem?_take] at h2
    split at h2
    · exact h2
    · cases h2
theorem Own.shrink {g n c : Nat} {l0 l1 : List α} (h : E.Own w base (.slice (some ⟨g, 0, none⟩) n c) (l0 ++ l1)) : E.Own w base (.slice (some ⟨g, 0, none⟩) l0.length c) l0 := by
  rcases h with ⟨hl, ⟨hv, h0⟩ | ⟨g', cap, cur, hv, hg, hh, hc, hm, hcs, ht⟩⟩
  · cases hv
  · injection hv with hA hB hC
    injection hA with hA
    injection hA with hA
    subst hA hC
    rw [List.length_append] at hc
    have hle : l0.length * E.sz ≤ (l0 ++ l1).length * E.sz := Nat.mul_le_mul_right _ (by simp)
    refine ⟨E.cells_length l0, .inr ⟨g, c, cur, rfl, hg, hh, by omega, hm, hcs, ?_⟩⟩
    have := congrArg (List.take (l0.length * E.sz)) ht
    rw [List.take_take, Nat.min_eq_left hle] at this
    rw [this, E.cells_append, List.take_left' (E.cells_length l0)]
theorem Own.fresh (w : World) (base : Nat) (hb : base ≤ w.heap.size) : E.Own (w.alloc (.cells #[] T)) base (.slice (some ⟨w.heap.size, 0, none⟩) 0 0) [] :=
  ⟨by simp [cells], .inr ⟨_, 0, #[], rfl, hb, heap_alloc_new _ _, Nat.le_refl _, by unfold maxLen; omega, by simp, by simp [cells]⟩⟩
/-- append of elements that lie at an address. -/
theorem append (E : El P T Ts α) {ops : Array Oper} {rest : List Oper} {o : Oper} {a : Act} {W : World} {Q : Exit → Act → World → Prop} (hgd : o.guard = none) (s y : Operand)
    (ho : o.op = .call { callee := .builtin .append, args := #[s, y], argTypes := #[Ts, Ts] }) (hty : o.type = Ts)
    (base : Nat) (v : Value) (l : List α) (hs : a.eval s = v) (hI : E.Own W base v l) (ad : Addr) (m c : Nat) (ns : List α) (hm : ns.length = m) (hpos : 0 < l.length + m) (hy : a.eval y = .slice (some ad) m c)
    (hc : ∀ j u, (E.cells ns)[j]? = some u → W.cell? (ad.add j) = some u) (hl : (l.length + m) * (E.wd + 1) ≤ 140737488355328) (hb : base ≤ W.heap.size)
    (h : ∀ g2 c2 w', E.Own w' base (.slice (some ⟨g2, 0, none⟩) (l.length + m) c2) (l ++ ns) → W.grownBy w' v.ownBlock → wpList P ops Q rest (a.put o.dst (.slice (some ⟨g2, 0, none⟩) (l.length + m) c2)) w') : wpList P ops Q (o :: rest) a W := by
  obtain ⟨i, h1, h2, h3, h4⟩ := info_get E.hi
  have hn : l.length + m ≤ 140737488355328 := Nat.le_trans (Nat.le_mul_of_pos_right _ (by omega)) hl
  have hnb : (l.length + m) * E.wd ≤ 140737488355328 := Nat.le_trans (Nat.mul_le_mul_left _ (by omega)) hl
  refine wpList_append_own W hgd s y Ts ho base T i E.zero E.sz E.wd E.hu h1 h2 h3 h4 E.hzs E.hpos v l.length (E.cells l) hs hI ad m c (E.cells ns) hy (by rw [E.cells_length, hm]) hc (E.cells_all ns) (by unfold maxLen; omega) hnb hb (fun v' w' h5 h6 h7 => ?_)
  rcases h5.2 with ⟨hv, h0⟩ | ⟨g, cap, cur, hv, hg, hh, hcc, hmx, hcs, ht⟩
  · omega
  · subst hv
    refine h g cap w' ?_ h6
    unfold Own
    rw [List.length_append, hm, E.cells_append]
    exact h5
/-- append inside a region that draws its order. -/
theorem step (E : El P T Ts α) {ops : Array Oper} {o : Oper} {a : Act} {W : World} {K : Act → World → Prop} {Q : Exit → Act → World → Prop} {Ex : Prop} (hgd : o.guard = none) (s y : Operand)
    (ho : o.op = .call { callee := .builtin .append, args := #[s, y], argTypes := #[Ts, Ts] }) (hty : o.type = Ts)
    (base : Nat) (v : Value) (l : List α) (hs : a.eval s = v) (hI : E.Own W base v l) (ad : Addr) (m c : Nat) (ns : List α) (hm : ns.length = m) (hpos : 0 < l.length + m) (hy : a.eval y = .slice (some ad) m c)
    (hc : ∀ j u, (E.cells ns)[j]? = some u → W.cell? (ad.add j) = some u) (hl : (l.length + m) * (E.wd + 1) ≤ 140737488355328) (hb : base ≤ W.heap.size)
    (h : ∀ g2 c2 w', E.Own w' base (.slice (some ⟨g2, 0, none⟩) (l.length + m) c2) (l ++ ns) → W.grownBy w' v.ownBlock → K (a.put o.dst (.slice (some ⟨g2, 0, none⟩) (l.length + m) c2)) w') :
    if Region.wanted o (yielded ops a.tmps) = true then Oper.wp P o a W K Q else Ex := by
  obtain ⟨i, h1, h2, h3, h4⟩ := info_get E.hi
  have hn : l.length + m ≤ 140737488355328 := Nat.le_trans (Nat.le_mul_of_pos_right _ (by omega)) hl
  have hnb : (l.length + m) * E.wd ≤ 140737488355328 := Nat.le_trans (Nat.mul_le_mul_left _ (by omega)) hl
  have hw : Region.wanted o (yielded ops a.tmps) = true := by simp [Region.wanted, hgd]
  rw [if_pos hw]
  refine wp_append_own W s y Ts ho base T i E.zero E.sz E.wd E.hu h1 h2 h3 h4 E.hzs E.hpos v l.length (E.cells l) hs hI ad m c (E.cells ns) hy (by rw [E.cells_length, hm]) hc (E.cells_all ns) (by unfold maxLen; omega) hnb hb (fun v' w' h5 h6 h7 => ?_)
  rcases h5.2 with ⟨hv, h0⟩ | ⟨g, cap, cur, hv, hg, hh, hcc, hmx, hcs, ht⟩
  · omega
  · subst hv
    refine h g cap w' ?_ h6
    unfold Own
    rw [List.length_append, hm, E.cells_append]
    exact h5
theorem step1 (E : El P T Ts α) {ops : Array Oper} {o : Oper} {a : Act} {W : World} {K : Act → World → Prop} {Q : Exit → Act → World → Prop} {Ex : Prop} (hgd : o.guard = none) (s y : Operand)
    (ho : o.op = .call { callee := .builtin .append, args := #[s, y], argTypes := #[Ts, Ts] }) (hty : o.type = Ts)
    (base : Nat) (v : Value) (l : List α) (hs : a.eval s = v) (hI : E.Own W base v l) (g1 : Nat) (x : α) (cs : Array Value) (hcs : cs.toList = E.enc x) (hy : a.eval y = .slice (some ⟨g1, 0, none⟩) 1 1)
    (hc : W.heap[g1]? = some (.cells cs T (0, 0))) (hl : (l.length + 1) * (E.wd + 1) ≤ 140737488355328) (hb : base ≤ W.heap.size)
    (h : ∀ g2 c2 w', E.Own w' base (.slice (some ⟨g2, 0, none⟩) (l.length + 1) c2) (l ++ [x]) → W.grownBy w' v.ownBlock → K (a.put o.dst (.slice (some ⟨g2, 0, none⟩) (l.length + 1) c2)) w') :
    if Region.wanted o (yielded ops a.tmps) = true then Oper.wp P o a W K Q else Ex := by
  refine E.step hgd s y ho hty base v l hs hI ⟨g1, 0, none⟩ 1 1 [x] rfl (by omega) hy ?_ hl hb h
  intro j u hj
  rw [E.cells_one] at hj
  rw [addr_add, cell_of_row W g1 _ cs _ _ hc, ← Array.getElem?_toList, hcs, Nat.zero_add]
  exact hj
/-- .. and where the row lies now. -/
theorem appendL (E : El P T Ts α) {ops : Array Oper} {rest : List Oper} {o : Oper} {a : Act} {W : World} {Q : Exit → Act → World → Prop} (hgd : o.guard = none) (s y : Operand)
    (ho : o.op = .call { callee := .builtin .append, args := #[s, y], argTypes := #[Ts, Ts] }) (hty : o.type = Ts)
    (base : Nat) (v : Value) (l : List α) (hs : a.eval s = v) (hI : E.Own W base v l) (ad : Addr) (m c : Nat) (ns : List α) (hm : ns.length = m) (hpos : 0 < m) (hy : a.eval y = .slice (some ad) m c)
    (hc : ∀ j u, (E.cells ns)[j]? = some u → W.cell? (ad.add j) = some u) (hl : (l.length + m) * (E.wd + 1) ≤ 140737488355328) (hb : base ≤ W.heap.size)
    (h : ∀ g2 c2 w', E.Own w' base (.slice (some ⟨g2, 0, none⟩) (l.length + m) c2) (l ++ ns) → W.grownBy w' v.ownBlock → (v.ownBlock = some g2 ∨ g2 = W.heap.size) → wpList P ops Q rest (a.put o.dst (.slice (some ⟨g2, 0, none⟩) (l.length + m) c2)) w') : wpList P ops Q (o :: rest) a W := by
  obtain ⟨i, h1, h2, h3, h4⟩ := info_get E.hi
  have hn : l.length + m ≤ 140737488355328 := Nat.le_trans (Nat.le_mul_of_pos_right _ (by omega)) hl
  have hnb : (l.length + m) * E.wd ≤ 140737488355328 := Nat.le_trans (Nat.mul_le_mul_left _ (by omega)) hl
  refine wpList_plain hgd fun _ hK => wp_append_lies W s y Ts ho base T i E.zero E.sz E.wd E.hu h1 h2 h3 h4 E.hzs E.hpos v l.length (E.cells l) hs hI ad m c (E.cells ns) hy (by rw [E.cells_length, hm]) hc (E.cells_all ns) hpos (by unfold maxLen; omega) hnb hb _ rfl (fun g cap w' h5 h6 h7 _ => hK _ _ (h g cap w' ?_ h6 h7))
  unfold Own
  rw [List.length_append, hm, E.cells_append]
  exact h5
theorem append1L (E : El P T Ts α) {ops : Array Oper} {rest : List Oper} {o : Oper} {a : Act} {W : World} {Q : Exit → Act → World → Prop} (hgd : o.guard = none) (s y : Operand)
    (ho : o.op = .call { callee := .builtin .append, args := #[s, y], argTypes := #[Ts, Ts] }) (hty : o.type = Ts)
    (base : Nat) (v : Value) (l : List α) (hs : a.eval s = v) (hI : E.Own W base v l) (g1 : Nat) (x : α) (cs : Array Value) (hcs : cs.toList = E.enc x) (hy : a.eval y = .slice (some ⟨g1, 0, none⟩) 1 1)
    (hc : W.heap[g1]? = some (.cells cs T (0, 0))) (hl : (l.length + 1) * (E.wd + 1) ≤ 140737488355328) (hb : base ≤ W.heap.size)
    (h : ∀ g2 c2 w', E.Own w' base (.slice (some ⟨g2, 0, none⟩) (l.length + 1) c2) (l ++ [x]) → W.grownBy w' v.ownBlock → (v.ownBlock = some g2 ∨ g2 = W.heap.size) → wpList P ops Q rest (a.put o.dst (.slice (some ⟨g2, 0, none⟩) (l.length + 1) c2)) w') : wpList P ops Q (o :: rest) a W := by
  refine E.appendL hgd s y ho hty base v l hs hI ⟨g1, 0, none⟩ 1 1 [x] rfl (by omega) hy ?_ hl hb h
  intro j u hj
  rw [E.cells_one] at hj
  rw [addr_add, cell_of_row W g1 _ cs _ _ hc, ← Array.getElem?_toList, hcs, Nat.zero_add]
  exact hj
/-- append of one element that was just made. -/
theorem append1 (E : El P T Ts α) {ops : Array Oper} {rest : List Oper} {o : Oper} {a : Act} {W : World} {Q : Exit → Act → World → Prop} (hgd : o.guard = none) (s y : Operand)
    (ho : o.op = .call { callee := .builtin .append, args := #[s, y], argTypes := #[Ts, Ts] }) (hty : o.type = Ts)
    (base : Nat) (v : Value) (l : List α) (hs : a.eval s = v) (hI : E.Own W base v l) (g1 : Nat) (x : α) (cs : Array Value) (hcs : cs.toList = E.enc x) (hy : a.eval y = .slice (some ⟨g1, 0, none⟩) 1 1)
    (hc : W.heap[g1]? = some (.cells cs T (0, 0))) (hl : (l.length + 1) * (E.wd + 1) ≤ 140737488355328) (hb : base ≤ W.heap.size)
    (h : ∀ g2 c2 w', E.Own w' base (.slice (some ⟨g2, 0, none⟩) (l.length + 1) c2) (l ++ [x]) → W.grownBy w' v.ownBlock → wpList P ops Q rest (a.put o.dst (.slice (some ⟨g2, 0, none⟩) (l.length + 1) c2)) w') : wpList P ops Q (o :: rest) a W := by
  refine E.append hgd s y ho hty base v l hs hI ⟨g1, 0, none⟩ 1 1 [x] rfl (by omega) hy ?_ hl hb h
  intro j u hj
  rw [E.cells_one] at hj
  rw [addr_add, cell_of_row W g1 _ cs _ _ hc, ← Array.getElem?_toList, hcs, Nat.zero_add]
  exact hj
theorem Own.grown {w0 W : World} {S : Nat → Prop} (hb : But S w0 W) (h : E.Own W base v l) (hg : W.grownBy w' v.ownBlock) (h0 : w0.heap.size ≤ base) : But S w0 w' := hb.grow hg h h0
end El
end Go.Proofs.Ytoaopjbgaehpfaa.G
end
section
/- plan's looker: a rule's steps, with their texts. -/
namespace Go.Proofs.Ytoaopjbgaehpfaa.G
open Go.RowKit
attribute [local simp, local go_sem] alloc_drewN setCell_drewN
set_option linter.unusedVariables false
set_option linter.unusedSimpArgs false
set_option maxRecDepth 100000
def stE : El Try.prog 115 107 (Int × ByteArray) where
  enc q := [.int .i64 q.1, .string q.2]
  sz := 2
  wd := 24
  zero := .agg #[.int .i64 0, .string ByteArray.empty]
  hpos := by decide
  henc _ := rfl
  hone q u hu := by
    simp only [List.mem_cons, List.not_mem_nil, or_false] at hu
    rcases hu with rfl | rfl <;> rfl
  hi := by kernel_rfl
  hzs := rfl
  hu := Try.underlying107
theorem heap_alloc2_newJ (w : World) (o o' : Obj) : ((w.alloc o).alloc o').heap[w.heap.size + 1]? = some o' := by
  have := heap_alloc_new (w.alloc o) o'
  simpa using this
theorem heap_alloc3_newJ (w : World) (o o' o'' : Obj) : (((w.alloc o).alloc o').alloc o'').heap[w.heap.size + 1 + 1]? = some o'' := by
  have := heap_alloc_new ((w.alloc o).alloc o') o''
  simpa using this
def stepOk (ts : List ByteArray) (q : Int × Int) : Bool := if saysB q.1 = true then textB q.2 ts.length else q.2 == 0
def stepOf (ts : List ByteArray) (q : Int × Int) : Int × ByteArray := (q.1, if saysB q.1 = true then strAt ts q.2 else ⟨#[]⟩)
theorem says0q (k : Int) (b : Bool) (hb : saysB k = b) (w : World) : Calls Try.prog 55 #[.int .i64 k] w fun e w' => e = .returned (.bool b) ∧ w = w' := hb ▸ says0 k w
theorem text0b (g : Nat) (n : Int) (At : Option Addr) (nt ct : Nat) (b : Bool) (hb : textB n nt = b) (w : World) (h : w.cell? ⟨g, 0, none⟩ = some (.slice At nt ct)) :
    Calls Try.prog 72 #[.pointer (some ⟨g, 0, none⟩), .int .i64 n] w fun e w' => e = .returned (.bool b) ∧ w = w' := hb ▸ text0 g n At nt ct w h
def LStepsPost (w : World) (ts : List ByteArray) (code : List (Int × Int)) (e : Ending) (w' : World) : Prop :=
  Below w.heap.size w w' ∧ ((code.all (stepOk ts) = false ∧ e = .returned (.tuple #[.slice none 0 0, .bool false])) ∨
    (code.all (stepOk ts) = true ∧ ∃ v, e = .returned (.tuple #[v, .bool true]) ∧ stE.Own w' w.heap.size v (code.map (stepOf ts))))
def LStepsAt (w : World) (ts : List ByteArray) (code : List (Int × Int)) (gk : Nat) (v6 v12 : Value) (wr : World) : Prop :=
  ∃ i : Nat, gk = code.length - i ∧ i ≤ code.length ∧ v12 = .int .i64 (i : Int) ∧ But No w wr ∧ (code.take i).all (stepOk ts) = true ∧ stE.Own wr w.heap.size v6 ((code.take i).map (stepOf ts))
set_option maxHeartbeats 8000000 in
theorem lsteps0 (g : Nat) (At : Option Addr) (ct : Nat) (ts : List ByteArray) (A : Option Addr) (c : Nat) (code : List (Int × Int)) (w : World) (h0 : w.cell? ⟨g, 0, none⟩ = some (.slice At ts.length ct))
    (hT : StrsIn w At ts) (hV : PairsIn w A code) (htl : ts.length ≤ 9223372036854775807) (hl : code.length * 25 ≤ 140737488355328) :
    Calls Try.prog 74 #[.pointer (some ⟨g, 0, none⟩), .slice A code.length c] w (LStepsPost w ts code) := by
  have HT := Lib.hid hT
  have HV := Lib.hid hV
  have hbad : ∀ i (hi : i < code.length), stepOk ts code[i] = false → code.all (stepOk ts) = false := fun i hi hb => by
    cases h : code.all (stepOk ts) with
    | false => rfl
    | true => rw [List.all_eq_true.1 h _ (List.getElem_mem hi)] at hb; cases hb
  have HBAD := Lib.hid hbad
  clear hT hV hbad
  go_enter Try.func74, Try.ntmps74
  go_wp2_with fail
  go_loopg [6, 12] code.length (fun gk v6 v12 wr => LStepsAt w ts code gk v6 v12 wr)
  case atStart => exact ⟨0, rfl, Nat.zero_le _, rfl, But.refl _ _, rfl, El.own_nil _ _⟩
  case round =>
    obtain ⟨i, hgk, hi, rfl, hb, hall, hO⟩ := hrel
    obtain ⟨nm, hnm⟩ : ∃ nm, (code.take i).map (stepOf ts) = nm := ⟨_, rfl⟩
    have hln : nm.length ≤ i := by rw [← hnm, List.length_map, List.length_take]; omega
    rw [hnm] at hO
    have HNM := Lib.hid hnm
    obtain ⟨A', c', rfl⟩ := hO.slice
    have HGK := Lib.hid hgk
    have HBt := Lib.hid hb
    have HO := Lib.hid hO
    have HA := Lib.hid hall
    have c0 := hb.cell_some h0 (fun c => c)
    have hgl : g < wr.heap.size := block_lt_of_cell c0
    have hne : ¬ wr.heap.size = g := by omega
    have hne1 : ¬ wr.heap.size + 1 = g := by omega
    have hws := hb.size
    clear hgk hb hO hnm hall
    by_cases hlt : i < code.length
    · obtain ⟨ad, hA, k1, k2⟩ := HV.out i hlt
      cases hA
      have k1' := HBt.out.cell_some k1 (fun c => c)
      have k2' := HBt.out.cell_some k2 (fun c => c)
      have hlt' : (i : Int) < (code.length : Int) := by omega
      have dl : decide ((i : Int) < (code.length : Int)) = true := decide_eq_true hlt'
      have hb0 := HBAD.out i hlt
      have hn0 : (code.take (i + 1)).map (stepOf ts) = nm ++ [stepOf ts code[i]] := by rw [List.take_succ_eq_append_getElem hlt, List.map_append, HNM.out]; rfl
      have ha0 : stepOk ts code[i] = true → (code.take (i + 1)).all (stepOk ts) = true := fun h => by rw [List.take_succ_eq_append_getElem hlt, List.all_append, HA.out]; simp [h]
      obtain ⟨⟨kk, x⟩, hp⟩ : ∃ p, code[i] = p := ⟨_, rfl⟩
      rw [hp] at k1' k2' hb0 hn0 ha0
      dsimp only at k1' k2'
      have HB0 := Lib.hid hb0
      have HN0 := Lib.hid hn0
      have HA0 := Lib.hid ha0
      clear hp k1 k2 hb0 hn0 ha0
      obtain ⟨b, hsb⟩ : ∃ b, saysB kk = b := ⟨_, rfl⟩
      have HSB := Lib.hid hsb
      clear hsb
      cases b with
      | true =>
        obtain ⟨b2, htb⟩ : ∃ b, textB x ts.length = b := ⟨_, rfl⟩
        have HTB := Lib.hid htb
        clear htb
        cases b2 with
        | false =>
          have E := Lib.hid (HB0.out (by unfold stepOk; rw [if_pos HSB.out]; exact HTB.out))
          go_wp2_with (first | (go_at_call 55; refine (says0q kk true HSB.out _).mono ?_; rintro e w2 ⟨rfl, rfl⟩) | (go_at_call 72; refine (text0b g x At ts.length ct false HTB.out _ (by go_simp)).mono ?_; rintro e w2 ⟨rfl, rfl⟩))
          go_ret2
          exact ⟨((HBt.out.alloc _).alloc _).belowNo, .inl ⟨E.out, rfl⟩⟩
        | true =>
          have ht := HTB.out
          unfold textB at ht
          rw [Bool.and_eq_true, decide_eq_true_eq, decide_eq_true_eq] at ht
          obtain ⟨ht0, ht1⟩ := ht
          obtain ⟨m, rfl⟩ : ∃ m : Nat, x = (m : Int) := ⟨x.toNat, by omega⟩
          have hm : m < ts.length := by omega
          obtain ⟨ad2, hA2, k3⟩ := HT.out m hm
          cases hA2
          obtain ⟨tx, htx⟩ : ∃ tx, ts[m] = tx := ⟨_, rfl⟩
          have hstr : strAt ts (m : Int) = tx := by unfold strAt; rw [Int.toNat_natCast, List.getD_eq_getElem?_getD, List.getElem?_eq_getElem hm, htx]; rfl
          rw [htx] at k3
          have k3' := HBt.out.cell_some k3 (fun c => c)
          have k3a : ((wr.alloc (.cells #[.int .i64 kk, .int .i64 (m : Int)] 79)).alloc (.cells #[.int .i64 kk, .string ⟨#[]⟩] 115)).cell? (ad2.add m) = some (.string tx) :=
            (((But.refl No wr).alloc _).alloc _).cell_some k3' (fun c => c)
          have hmi : (m : Int) < (ts.length : Int) := by omega
          have hmb : decide ((m : Int) < (ts.length : Int)) = true := decide_eq_true hmi
          have HNX := Lib.hid (show (code.take (i + 1)).map (stepOf ts) = nm ++ [(kk, tx)] from by rw [HN0.out]; unfold stepOf; dsimp only; rw [if_pos HSB.out, hstr])
          have E := Lib.hid (HA0.out (by unfold stepOk; dsimp only; rw [if_pos HSB.out]; exact HTB.out))
          clear htx k3 ht0 ht1 hstr
          go_wp2_with (first | (go_at_call 55; refine (says0q kk true HSB.out _).mono ?_; rintro e w2 ⟨rfl, rfl⟩) | (go_at_call 72; refine (text0b g (m : Int) (some ad2) ts.length ct true HTB.out _ (by go_simp)).mono ?_; rintro e w2 ⟨rfl, rfl⟩))
          go_region
          go_wp2_with (at_builtin; refine stE.append1L rfl _ _ rfl rfl w.heap.size (.slice A' nm.length c') nm rfl ((((HO.out.new ((But.refl No wr).alloc _)).alloc _).alloc _).drewN 1) (wr.heap.size + 1 + 1) (kk, tx) #[.int .i64 kk, .string tx] rfl rfl ?hrow (by show (nm.length + 1) * (24 + 1) ≤ _; omega) (by simp; omega) ?_; (case hrow => exact heap_alloc3_newJ wr _ _ _); intro g2 c2 w2 hown hgrow _)
          have HB2 := Lib.hid (El.Own.grown ((((HBt.out.alloc _).alloc _).alloc _).drewN 1) ((((HO.out.new ((But.refl No wr).alloc _)).alloc _).alloc _).drewN 1) hgrow (Nat.le_refl _))
          have HO2 := Lib.hid hown
          clear hown hgrow
          go_roundg (code.length - (i + 1))
          case measure => rw [HGK.out]; omega
          case rel => exact ⟨i + 1, rfl, by omega, by go_num, HB2.out, E.out, by rw [HNX.out]; exact HO2.out⟩
      | false =>
        by_cases hx : x = 0
        · subst hx
          have HNX := Lib.hid (show (code.take (i + 1)).map (stepOf ts) = nm ++ [(kk, (⟨#[]⟩ : ByteArray))] from by rw [HN0.out]; unfold stepOf; dsimp only; rw [if_neg (by rw [HSB.out]; decide)])
          have E := Lib.hid (HA0.out (by unfold stepOk; dsimp only; rw [if_neg (by rw [HSB.out]; decide)]; rfl))
          go_wp2_with (first | (go_at_call 55; refine (says0q kk false HSB.out _).mono ?_; rintro e w2 ⟨rfl, rfl⟩) | (at_builtin; refine stE.append1L rfl _ _ rfl rfl w.heap.size (.slice A' nm.length c') nm rfl (((HO.out.new ((But.refl No wr).alloc _)).alloc _).alloc _) (wr.heap.size + 1 + 1) (kk, (⟨#[]⟩ : ByteArray)) #[.int .i64 kk, .string (⟨#[]⟩ : ByteArray)] rfl rfl ?hrow (by show (nm.length + 1) * (24 + 1) ≤ _; omega) (by simp; omega) ?_; (case hrow => exact heap_alloc3_newJ wr _ _ _); intro g2 c2 w2 hown hgrow _))
          have HB2 := Lib.hid (El.Own.grown (((HBt.out.alloc _).alloc _).alloc _) (((HO.out.new ((But.refl No wr).alloc _)).alloc _).alloc _) hgrow (Nat.le_refl _))
          have HO2 := Lib.hid hown
          clear hown hgrow
          go_roundg (code.length - (i + 1))
          case measure => rw [HGK.out]; omega
          case rel => exact ⟨i + 1, rfl, by omega, by go_num, HB2.out, E.out, by rw [HNX.out]; exact HO2.out⟩
        · have E := Lib.hid (HB0.out (by unfold stepOk; dsimp only; rw [if_neg (by rw [HSB.out]; decide)]; simpa using hx))
          have dx : (x == 0) = false := by simpa using hx
          have dx' : ¬ x = 0 := hx
          go_wp2_with (first | (go_at_call 55; refine (says0q kk false HSB.out _).mono ?_; rintro e w2 ⟨rfl, rfl⟩))
          go_ret2
          exact ⟨((HBt.out.alloc _).alloc _).belowNo, .inl ⟨E.out, rfl⟩⟩
    · obtain rfl : i = code.length := by omega
      have hlt' : ¬ (code.length : Int) < (code.length : Int) := by omega
      have hnm := HNM.out
      rw [List.take_length] at hnm
      have ha := HA.out
      rw [List.take_length] at ha
      have HX := Lib.hid hnm
      have HY := Lib.hid ha
      clear hnm ha
      go_wp2_with fail
      go_ret2
      exact ⟨HBt.out.belowNo, .inr ⟨HY.out, _, rfl, by rw [HX.out]; exact HO.out⟩⟩
end Go.Proofs.Ytoaopjbgaehpfaa.G
end
section
/- expr's walk over steps: the stack, and what is taken from it. -/
namespace Go.Proofs.Ytoaopjbgaehpfaa.G
open Go.RowKit
attribute [local simp, local go_sem] alloc_drewN setCell_drewN
set_option linter.unusedVariables false
set_option linter.unusedSimpArgs false
set_option maxRecDepth 100000
/-- A part that was gone through. -/
structure Prt where
  truth : Bool
  lit : Bool
  text : ByteArray
def prE : El Try.prog 122 117 Prt where
  enc q := [.bool q.truth, .bool q.lit, .string q.text]
  sz := 3
  wd := 24
  zero := .agg #[.bool false, .bool false, .string ByteArray.empty]
  hpos := by decide
  henc _ := rfl
  hone q u hu := by
    simp only [List.mem_cons, List.not_mem_nil, or_false] at hu
    rcases hu with rfl | rfl | rfl <;> rfl
  hi := by kernel_rfl
  hzs := rfl
  hu := Try.underlying117
def Ge (g : Nat) : Nat → Prop := fun k => g ≤ k
/-- The walk at block g holds the stack st in the slice v. -/
def Wk (w : World) (g : Nat) (v : Value) (st : List Prt) : Prop := w.heap[g]? = some (.cells #[v] 119 (0, 0)) ∧ prE.Own w (g + 1) v st
theorem Wk.lt {w : World} {g : Nat} {v : Value} {st : List Prt} (h : Wk w g v st) : g < w.heap.size := lt_of_block h.1
theorem Wk.cell {w : World} {g : Nat} {v : Value} {st : List Prt} (h : Wk w g v st) : w.cell? ⟨g, 0, none⟩ = some v := by
  rw [cell_of_row w g 0 _ _ _ h.1]
  rfl
theorem Wk.free {w : World} {g : Nat} {v : Value} {st : List Prt} (h : Wk w g v st) (i : Nat) : w.frozen? ⟨g, i, none⟩ = false := blkfree h.1 i
theorem Wk.new {w w' : World} {g : Nat} {v : Value} {st : List Prt} (h : Wk w g v st) (hb : But No w w') : Wk w' g v st :=
  ⟨(hb.block g h.lt (fun c => c)).trans h.1, h.2.new hb⟩
theorem Wk.put {w : World} {g : Nat} {v v' : Value} {st st' : List Prt} (h : Wk w g v st) (ho : prE.Own w (g + 1) v' st') : Wk (w.setCell ⟨g, 0, none⟩ v') g v' st' :=
  ⟨by rw [blkset h.1 0 v']; rfl, ho.set (p := ⟨g, 0, none⟩) (Nat.lt_succ_self g) _⟩
/-- What is taken lies in a slice of its own. -/
def Lies (w : World) (v : Value) (l : List Prt) : Prop := ∃ b c, v = .slice (some ⟨b, 0, none⟩) l.length c ∧ ∀ i q, l[i]? = some q → w.cell? ⟨b, i * 3, none⟩ = some (.bool q.truth) ∧ w.cell? ⟨b, i * 3 + 1, none⟩ = some (.bool q.lit) ∧ w.cell? ⟨b, i * 3 + 2, none⟩ = some (.string q.text)
def Has (st : List Prt) (k : Nat) (t : Bool) : Prop := ∃ st0 l, st = st0 ++ l ∧ l.length = k ∧ ∀ q ∈ l, q.truth = t
def TakesPost (w : World) (g : Nat) (st : List Prt) (k : Nat) (t : Bool) (e : Ending) (w' : World) : Prop :=
  But (Ge g) w w' ∧
    ((e = .returned (.tuple #[.slice none 0 0, .bool false]) ∧ (∃ v, Wk w' g v st) ∧ ¬ Has st k t) ∨
      ∃ st0 l v v', st = st0 ++ l ∧ l.length = k ∧ (∀ q ∈ l, q.truth = t) ∧ e = .returned (.tuple #[v, .bool true]) ∧ Lies w' v l ∧ Wk w' g v' st0)
set_option maxHeartbeats 8000000 in
theorem takes0 (g : Nat) (st : List Prt) (v : Value) (b k : Nat) (t : Bool) (w : World) (h : Wk w g v st) (hst : st.length ≤ 1024) (hk : 1 ≤ k) (hk2 : k ≤ 2) (hb : g < b) (hb2 : b < w.heap.size)
    (hc : ∀ i, i < k → w.cell? ⟨b, i, none⟩ = some (.bool t)) :
    Calls Try.prog 88 #[.pointer (some ⟨g, 0, none⟩), .slice (some ⟨b, 0, none⟩) k k] w (TakesPost w g st k t) := by
  have hg0 := h.cell
  by_cases h1 : st.length < k
  · have hN : ¬ Has st k t := by
      rintro ⟨st0, l, e1, e2, _⟩
      rw [e1, List.length_append] at h1
      omega
    obtain ⟨A, c, rfl⟩ := h.2.slice
    have d1 : decide ((st.length : Int) - (k : Int) < 0) = true := by simp; omega
    have p1 : (st.length : Int) - (k : Int) < 0 := by omega
    have HN := Lib.hid hN
    clear hN hc
    go_enter Try.func88, Try.ntmps88
    go_wp2_with fail
    go_ret2
    exact ⟨But.refl _ _, .inl ⟨rfl, ⟨_, h⟩, HN.out⟩⟩
  · obtain ⟨gs, c, rfl, hgs, hgsl, hcap, hmx⟩ := h.2.lit (by omega)
    obtain ⟨m, hm⟩ : ∃ m, st.length = m + k := ⟨st.length - k, by omega⟩
    obtain ⟨st0, l, e1, e2, e3⟩ : ∃ st0 l : List Prt, st = st0 ++ l ∧ st0.length = m ∧ l.length = k := ⟨st.take m, st.drop m, (List.take_append_drop m st).symm, by simp; omega, by simp; omega⟩
    have hO := h.2
    rw [e1] at hO
    have hsrc := hO.part
    have hown0 := hO.shrink
    rw [e2] at hsrc hown0
    have hgl := h.lt
    rw [hm] at hg0 hst
    have HS := Lib.hid hsrc
    have HO := Lib.hid hown0
    have E1 := Lib.hid e1
    have E2 := Lib.hid e2
    have E3 := Lib.hid e3
    have HW := Lib.hid h
    have HC := Lib.hid hc
    have HM := Lib.hid hm
    have hmc : m + k ≤ c := by omega
    have hne : ¬ c = m := by omega
    have d0 : decide ((m : Int) < 0) = false := by simp
    have d1 : ¬ (m : Int) < 0 := by omega
    clear hsrc hown0 hO e1 e2 e3 h hc hm hcap h1
    go_enter Try.func88, Try.ntmps88
    go_wp2_with (at_builtin; refine prE.append rfl _ _ rfl rfl w.heap.size _ [] rfl (El.Own.fresh w _ (Nat.le_refl _)) ⟨gs, m * 3, none⟩ k (c - m) l E3.out (by simp; omega) rfl (fun j u hj => ((But.refl No w).alloc _).cell_some (HS.out j u hj) (fun c => c)) (by show (([] : List Prt).length + k) * (24 + 1) ≤ _; simp; omega) (by simp) ?_; intro g2 c2 w1 hown hgrow)
    have hb1 : But No w w1 := El.Own.grown ((But.refl No w).alloc _) (El.Own.fresh (E := prE) w _ (Nat.le_refl _)) hgrow (Nat.le_refl _)
    have hown1 : prE.Own w1 w.heap.size (.slice (some ⟨g2, 0, none⟩) k c2) l := by simpa using hown
    have hcells : ∀ i q, l[i]? = some q → w1.cell? ⟨g2, i * 3, none⟩ = some (.bool q.truth) ∧ w1.cell? ⟨g2, i * 3 + 1, none⟩ = some (.bool q.lit) ∧ w1.cell? ⟨g2, i * 3 + 2, none⟩ = some (.string q.text) :=
      fun i q hq => ⟨hown1.cell i q hq 0 _ rfl, hown1.cell i q hq 1 _ rfl, hown1.cell i q hq 2 _ rfl⟩
    have hg2 := hown1.block
    have HCL := Lib.hid hcells
    have HW1 := Lib.hid (HW.out.new hb1)
    have HO1 := Lib.hid (HO.out.new hb1)
    have HB1 := Lib.hid hb1
    have hgc := HW1.out.cell
    rw [HM.out] at hgc
    have hgf := HW1.out.free 0
    have hgl1 := HW1.out.lt
    have hg2l := hg2.1
    have hg2s := hg2.2.1
    clear hgrow hown hown1 hcells hb1 hg2
    go_loopg [30] k (fun gk v30 wr => ∃ i : Nat, gk = k - i ∧ i ≤ k ∧ v30 = .int .i64 (i : Int) ∧ w1 = wr ∧ ∀ j q, j < i → l[j]? = some q → q.truth = t)
    case atStart => exact ⟨0, rfl, Nat.zero_le _, rfl, rfl, fun j q hj => absurd hj (Nat.not_lt_zero j)⟩
    case round =>
      obtain ⟨i, hgk, hi, rfl, rfl, hall⟩ := hrel
      have HGK := Lib.hid hgk
      have HA := Lib.hid hall
      clear hgk hall
      by_cases hlt : i < k
      · have hil : i < l.length := by rw [E3.out]; exact hlt
        have hc1 := (HCL.out i l[i] (List.getElem?_eq_getElem hil)).1
        have hc2 := HB1.out.cell_some (HC.out i hlt) (fun c => c)
        obtain ⟨x, hx⟩ : ∃ x, l[i].truth = x := ⟨_, rfl⟩
        rw [hx] at hc1
        by_cases hxt : x = t
        · subst hxt
          have e1 : (x != x) = false := by simp
          have HN : Hid (∀ j q, j < i + 1 → l[j]? = some q → q.truth = x) := Lib.hid (by
            intro j q hj hq
            by_cases hji : j < i
            · exact HA.out j q hji hq
            · obtain rfl : j = i := by omega
              rw [List.getElem?_eq_getElem hil] at hq
              injection hq with hq
              rw [← hq]
              exact hx)
          clear hx
          go_wp2_with fail
          go_roundg (k - (i + 1))
          case measure => rw [HGK.out]; omega
          case rel => exact ⟨i + 1, rfl, by omega, by go_num, rfl, HN.out⟩
        · have e1 : (x != t) = true := by simp [hxt]
          have e2 : (x == t) = false := by simp [hxt]
          have HN : Hid (¬ Has st k t) := Lib.hid (by
            rintro ⟨st1, l1, q1, q2, q3⟩
            have h4 : st0.length = st1.length := by
              have := congrArg List.length (E1.out.symm.trans q1)
              rw [List.length_append, List.length_append, q2, E3.out] at this
              omega
            have h5 := (List.append_inj (E1.out.symm.trans q1) h4).2
            have h6 : l[i] ∈ l1 := by rw [← h5]; exact List.getElem_mem hil
            exact hxt (hx.symm.trans (q3 _ h6)))
          clear hx hxt
          go_wp2_with fail
          go_ret2
          exact ⟨HB1.out.mono (fun _ _ c => c.elim), .inl ⟨rfl, ⟨_, HW1.out⟩, HN.out⟩⟩
      · obtain rfl : i = k := by omega
        have HL : Hid (∀ q ∈ l, q.truth = t) := Lib.hid (by
          intro q hq
          obtain ⟨j, hj, e⟩ := List.getElem_of_mem hq
          exact HA.out j q (by rw [← E3.out]; exact hj) (by rw [List.getElem?_eq_getElem hj, e]))
        have hmc2 : m ≤ c := by omega
        go_wp2_with fail
        go_ret2
        refine ⟨(HB1.out.mono (fun _ _ c => c.elim)).setCell (.inl (Nat.le_refl g)) _, .inr ⟨st0, l, _, _, E1.out, E3.out, HL.out, rfl, ⟨g2, c2, by rw [E3.out]; rfl, ?_⟩, HW1.out.put HO1.out⟩⟩
        have hsb : ∀ o, (w1.setCell ⟨g, 0, none⟩ (.slice (some ⟨gs, 0, none⟩) m c)).cell? ⟨g2, o, none⟩ = w1.cell? ⟨g2, o, none⟩ := fun o => ((But.refl (One g) w1).set1 0 _).cell (p := ⟨g2, o, none⟩) hg2s (show ¬ g2 = g by omega)
        intro j q hq
        have := HCL.out j q hq
        exact ⟨(hsb _).trans this.1, (hsb _).trans this.2.1, (hsb _).trans this.2.2⟩
end Go.Proofs.Ytoaopjbgaehpfaa.G
end
section
/- The functions of one byte that a pattern's steps hold. -/
namespace Go.Proofs.Ytoaopjbgaehpfaa.G
open Go.RowKit
attribute [local simp, local go_sem] alloc_drewN setCell_drewN
set_option linter.unusedVariables false
def Typ (w : World) (k t : Nat) : Prop := ∃ c fr, w.heap[k]? = some (.cells c t fr)
/-- The blocks of steps, and readers: what may change while a function of one byte is kept. -/
def Sty (w : World) : Nat → Prop := fun k => Typ w k 142 ∨ Typ w k 136
theorem not_sty {w : World} {k t : Nat} {c : Array Value} {fr : Nat × Nat} (h : w.heap[k]? = some (.cells c t fr)) (h1 : t ≠ 142) (h2 : t ≠ 136) : ¬ Sty w k := by
  rintro (⟨c', fr', h'⟩ | ⟨c', fr', h'⟩)
  · rw [h] at h'
    injection h' with h'
    injection h' with _ h'
    exact h1 h'
  · rw [h] at h'
    injection h' with h'
    injection h' with _ h'
    exact h2 h'
/-- f is a function of one byte that answers φ, now and later. -/
def Fits (w : World) (f : Value) (φ : Int → Bool) : Prop :=
  ∃ n cap, f = .func (.func n) #[] cap ∧ (∀ (args : Array Value) (w' : World), (callFunc n args).run Try.prog w' = .ok (.enter n args) w') ∧ ∀ w', But (Sty w) w w' → ∀ c : Int, 0 ≤ c → c ≤ 255 → Calls Try.prog n (#[.int .u8 c] ++ cap) w' fun e w'' => e = .returned (.bool (φ c)) ∧ But No w' w''
theorem sty_trans {w w' w'' : World} {S : Nat → Prop} (hb : But S w w') (hS : ∀ k, k < w.heap.size → S k → Sty w k) (hb2 : But (Sty w') w' w'') : But (Sty w) w w'' :=
  (hb.mono hS).trans_ hb2 (fun k hk hs => by
    by_cases h : Sty w k
    · exact h
    · have e := (hb.mono hS).block k hk h
      rcases hs with ⟨c, fr, hc⟩ | ⟨c, fr, hc⟩
      · exact .inl ⟨c, fr, e.symm.trans hc⟩
      · exact .inr ⟨c, fr, e.symm.trans hc⟩)
theorem Fits.later {w w' : World} {f : Value} {φ : Int → Bool} {S : Nat → Prop} (h : Fits w f φ) (hb : But S w w') (hS : ∀ k, k < w.heap.size → S k → Sty w k) : Fits w' f φ := by
  obtain ⟨n, cap, rfl, he, hc⟩ := h
  exact ⟨n, cap, rfl, he, fun w'' h2 => hc w'' (sty_trans hb hS h2)⟩
set_option maxHeartbeats 400000 in
theorem one1 (c x : Int) (g : Nat) (w : World) (hg : w.cell? ⟨g, 0, none⟩ = some (.int .u8 x)) :
    Calls Try.prog 109 #[.int .u8 c, .pointer (some ⟨g, 0, none⟩)] w fun e w' => e = .returned (.bool (c == x)) ∧ w' = w := by
  go_enter Try.func109, Try.ntmps109
  go_wp2
  go_ret
  exact ⟨rfl, rfl⟩
set_option maxHeartbeats 400000 in
theorem one0 (x : Int) (w : World) :
    Calls Try.prog 103 #[.int .u8 x] w fun e w' => e = .returned (.func (.func 109) #[] #[.pointer (some ⟨w.heap.size, 0, none⟩)]) ∧ w' = w.alloc (.cells #[.int .u8 x] 5) := by
  go_enter Try.func103, Try.ntmps103
  go_wp2
  go_ret
  exact ⟨rfl, rfl⟩
theorem one_fits (x : Int) (w : World) : Fits (w.alloc (.cells #[.int .u8 x] 5)) (.func (.func 109) #[] #[.pointer (some ⟨w.heap.size, 0, none⟩)]) (fun c => c == x) :=
  ⟨_, _, rfl, enters Try.func109 (by kernel_rfl) (by kernel_rfl), fun w' hb c _ _ => (one1 c x w.heap.size w' (hb.cell_some (p := ⟨w.heap.size, 0, none⟩) (by simp) (not_sty (heap_alloc_new w _) (by decide) (by decide)))).mono (fun e w'' ⟨he, hw⟩ => ⟨he, hw ▸ But.refl _ _⟩)⟩
theorem all0 (c : Int) (w : World) : Calls Try.prog 100 #[.int .u8 c] w fun e w' => e = .returned (.bool true) ∧ w' = w := by
  go_enter Try.func100, Try.ntmps100
  go_wp2
  go_ret
  exact ⟨rfl, rfl⟩
theorem all_fits (w : World) : Fits w (.func (.func 100) #[] #[]) (fun _ => true) :=
  ⟨_, _, rfl, enters Try.func100 (by kernel_rfl) (by kernel_rfl), fun w' _ c _ _ => (all0 c w').mono (fun e w'' ⟨he, hw⟩ => ⟨he, hw ▸ But.refl _ _⟩)⟩
theorem plain0 (c : Int) (w : World) : Calls Try.prog 101 #[.int .u8 c] w fun e w' => e = .returned (.bool (c != 47)) ∧ w' = w := by
  go_enter Try.func101, Try.ntmps101
  go_wp2
  go_ret
  exact ⟨rfl, rfl⟩
theorem plain_fits (w : World) : Fits w (.func (.func 101) #[] #[]) (fun c => c != 47) :=
  ⟨_, _, rfl, enters Try.func101 (by kernel_rfl) (by kernel_rfl), fun w' _ c _ _ => (plain0 c w').mono (fun e w'' ⟨he, hw⟩ => ⟨he, hw ▸ But.refl _ _⟩)⟩
def inTo (lo hi : Nat → Int) (c : Int) : Nat → Bool
  | 0 => false
  | k + 1 => inTo lo hi c k || (decide (lo k ≤ c) && decide (c ≤ hi k))
def classB (n : Nat) (lo hi : Nat → Int) (no : Bool) (c : Int) : Bool := (c != 47) && (inTo lo hi c n != no)
set_option maxHeartbeats 2000000 in
theorem class1 (c : Int) (gs gn n cap b : Nat) (lo hi : Nat → Int) (no : Bool) (w : World)
    (hs : w.cell? ⟨gs, 0, none⟩ = some (.slice (some ⟨b, 0, none⟩) n cap)) (hn : w.cell? ⟨gn, 0, none⟩ = some (.bool no))
    (hlo : ∀ i, i < n → w.cell? ⟨b, i * 2, none⟩ = some (.int .u8 (lo i)))
    (hhi : ∀ i, i < n → w.cell? ⟨b, i * 2 + 1, none⟩ = some (.int .u8 (hi i))) (hlen : n ≤ 1000) :
    Calls Try.prog 108 #[.int .u8 c, .pointer (some ⟨gs, 0, none⟩), .pointer (some ⟨gn, 0, none⟩)] w fun e w' => e = .returned (.bool (classB n lo hi no c)) ∧ But No w w' := by
  have hlen' : n ≤ 9223372036854775807 := by omega
  have hnlt := block_lt_of_cell hn
  simp only at hnlt
  go_enter Try.func108, Try.ntmps108
  go_wp2
  go_loopw [5, 10] (fun i j wr => ∃ k, k ≤ n ∧ i = .bool (inTo lo hi c k) ∧ j = .int .i64 k ∧ But No w wr) (fun _ j _ => n - (intOf j).toNat)
  case atStart => exact ⟨0, Nat.zero_le _, rfl, rfl, But.refl _ _⟩
  case round =>
    obtain ⟨k, hk, rfl, rfl, hb⟩ := hrel
    by_cases hlt : k < n
    · have h1 := hb.cell_some (hlo k hlt) (fun h => h)
      have h2 := hb.cell_some (hhi k hlt) (fun h => h)
      have hin : inTo lo hi c (k + 1) = (inTo lo hi c k || (decide (lo k ≤ c) && decide (c ≤ hi k))) := rfl
      have H := Lib.hid hin
      clear hin
      go_wp2
      all_goals
        go_roundw
        case rel => exact ⟨k + 1, by omega, by rw [H.out]; simp [*], by go_num, hb.alloc _⟩
        case measure => simp [intOf]; omega
    · have h3 := hb.cell_some hn (fun h => h)
      obtain rfl : k = n := by omega
      have hf : classB k lo hi no c = ((c != 47) && (inTo lo hi c k != no)) := rfl
      have H := Lib.hid hf
      clear hf
      cases e1 : (c != 47)
      · rw [e1] at H
        go_wp2
        go_ret
        exact ⟨by rw [H.out]; rfl, hb⟩
      · rw [e1] at H
        go_wp2
        go_ret
        exact ⟨by rw [H.out]; rfl, hb⟩
end Go.Proofs.Ytoaopjbgaehpfaa.G
end
section
/- The reader's brackets. -/
namespace Go.Proofs.Ytoaopjbgaehpfaa.G
open Go.RowKit
attribute [local simp, local go_sem] alloc_drewN setCell_drewN
set_option linter.unusedVariables false
set_option maxRecDepth 100000
def spanCells (l : List (Int × Int)) : List Value := l.flatMap fun s => [.int .u8 s.1, .int .u8 s.2]
theorem spanCells_append (l m : List (Int × Int)) : spanCells (l ++ m) = spanCells l ++ spanCells m := by simp [spanCells]
theorem spanCells_at (l : List (Int × Int)) : ∀ i, i < l.length → (spanCells l)[i * 2]? = some (.int .u8 (l.getD i (0, 0)).1) ∧ (spanCells l)[i * 2 + 1]? = some (.int .u8 (l.getD i (0, 0)).2) := by
  induction l with
  | nil => intro i h; simp at h
  | cons s l ih =>
    intro i h
    cases i with
    | zero => simp [spanCells]
    | succ i =>
      have := ih i (by simpa using h)
      simp only [spanCells, List.flatMap_cons] at this ⊢
      rw [show (i + 1) * 2 = i * 2 + 2 from by omega]
      simpa using this
/-- The ranges of brackets from place x on; fr: where the bracket stands. -/
def classGo (p : ByteArray) (fr : Nat) (x : Nat) (y : Int) (l : List (Int × Int)) : Nat × Int × List (Int × Int) :=
  if h : x < p.size ∧ bt p x ≠ 93 then
    if byteA p x + 1 < p.size ∧ bt p (byteA p x) = 45 ∧ bt p (byteA p x + 1) ≠ 93 then
      classGo p fr (byteA p (byteA p x + 1))
        (if byteV p (byteA p x + 1) < byteV p x then wrongAt (byteB p (byteA p x + 1) (byteB p x y)) fr else byteB p (byteA p x + 1) (byteB p x y))
        (l ++ [(byteV p x, byteV p (byteA p x + 1))])
    else classGo p fr (byteA p x) (byteB p x y) (l ++ [(byteV p x, byteV p x)])
  else (x, y, l)
termination_by p.size - x
decreasing_by
  all_goals
    have h1 : x < byteA p x := by unfold byteA; split <;> (try split) <;> omega
    have h2 : ∀ z, z < byteA p z := by intro z; unfold byteA; split <;> (try split) <;> omega
    have h3 := h2 (byteA p x + 1)
    omega
theorem byteA_lt (p : ByteArray) (x : Nat) : x < byteA p x := by unfold byteA; split <;> (try split) <;> omega
theorem byteA_le (p : ByteArray) (x : Nat) (h : x < p.size) : byteA p x ≤ p.size := by unfold byteA; split <;> (try split) <;> omega
def classL (l : List (Int × Int)) (no : Bool) (c : Int) : Bool := (c != 47) && ((l.any fun s => decide (s.1 ≤ c) && decide (c ≤ s.2)) != no)
theorem inTo_list (l : List (Int × Int)) (c : Int) : ∀ k, k ≤ l.length → inTo (fun i => (l.getD i (0, 0)).1) (fun i => (l.getD i (0, 0)).2) c k = (l.take k).any fun s => decide (s.1 ≤ c) && decide (c ≤ s.2) := by
  intro k
  induction k with
  | zero => intro _; rfl
  | succ k ih =>
    intro h
    have hk : k < l.length := by omega
    rw [inTo, ih (by omega), List.take_succ_eq_append_getElem hk, List.any_append]
    simp [List.getD_eq_getElem?_getD, List.getElem?_eq_getElem hk]
theorem classB_list (l : List (Int × Int)) (no : Bool) (c : Int) : classB l.length (fun i => (l.getD i (0, 0)).1) (fun i => (l.getD i (0, 0)).2) no c = classL l no c := by
  unfold classB classL
  rw [inTo_list l c l.length (Nat.le_refl _), List.take_length]
set_option maxHeartbeats 2000000 in
theorem class1nil (c : Int) (gs gn : Nat) (no : Bool) (w : World)
    (hs : w.cell? ⟨gs, 0, none⟩ = some (.slice none 0 0)) (hn : w.cell? ⟨gn, 0, none⟩ = some (.bool no)) :
    Calls Try.prog 108 #[.int .u8 c, .pointer (some ⟨gs, 0, none⟩), .pointer (some ⟨gn, 0, none⟩)] w fun e w' => e = .returned (.bool (classL [] no c)) ∧ But No w w' := by
  have H := Lib.hid (show classL [] no c = ((c != 47) && (false != no)) from rfl)
  go_enter Try.func108, Try.ntmps108
  go_wp2
  go_loopw [5, 10] (fun i j wr => i = .bool false ∧ j = .int .i64 0 ∧ wr = w) (fun _ j _ => 0)
  case atStart => exact ⟨rfl, rfl, rfl⟩
  case round =>
    obtain ⟨rfl, rfl, rfl⟩ := hrel
    cases e1 : (c != 47)
    · rw [e1] at H
      go_wp2
      go_ret
      exact ⟨by rw [H.out]; cases no <;> rfl, But.refl _ _⟩
    · rw [e1] at H
      go_wp2
      go_ret
      exact ⟨by rw [H.out]; cases no <;> rfl, But.refl _ _⟩
theorem class_fits (w : World) (gs gn base : Nat) (v : Value) (l : List (Int × Int)) (no : Bool)
    (hs : w.heap[gs]? = some (.cells #[v] 151 (0, 0))) (hn : w.heap[gn]? = some (.cells #[.bool no] 4 (0, 0)))
    (ho : w.ownsRow base 153 2 v l.length (spanCells l)) (hlen : l.length ≤ 1000) :
    Fits w (.func (.func 108) #[] #[.pointer (some ⟨gs, 0, none⟩), .pointer (some ⟨gn, 0, none⟩)]) (classL l no) := by
  refine ⟨_, _, rfl, enters Try.func108 (by kernel_rfl) (by kernel_rfl), fun w' hb c _ _ => ?_⟩
  have hs' := hb.cell_some (cell_of_one hs) (not_sty hs (by decide) (by decide))
  have hn' := hb.cell_some (cell_of_one hn) (not_sty hn (by decide) (by decide))
  rcases ho with ⟨_, ⟨rfl, h0⟩ | ⟨g, cap, cur, rfl, hg, hh, hc, hm, hcs, ht⟩⟩
  · obtain rfl : l = [] := List.eq_nil_of_length_eq_zero h0
    exact class1nil c gs gn no w' hs' hn'
  · have hcell : ∀ j u, (spanCells l)[j]? = some u → w.cell? ⟨g, j, none⟩ = some u := by
      intro j u hj
      rw [cell_of_row w g j cur _ _ hh, ← Array.getElem?_toList]
      rw [← ht] at hj
      rw [List.getElem?_take] at hj
      split at hj
      · exact hj
      · simp at hj
    rw [← classB_list]
    exact class1 c gs gn l.length cap g _ _ no w' hs' hn' (fun i hi => hb.cell_some (hcell _ _ (spanCells_at l i hi).1) (not_sty hh (by decide) (by decide))) (fun i hi => hb.cell_some (hcell _ _ (spanCells_at l i hi).2) (not_sty hh (by decide) (by decide))) hlen
end Go.Proofs.Ytoaopjbgaehpfaa.G
end
