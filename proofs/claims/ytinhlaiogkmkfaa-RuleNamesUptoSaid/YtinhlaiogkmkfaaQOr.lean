/- Texts of this claim, joined: words and laws that the others use. -/
import Derived.Test.YtinhlaiogkmkfaaRows
import Derived.Test.YtinhlaiogkmkfaaQPAx9
import Derived.OpenShut
import Derived.SizedLaws
import Derived.DataReads
section
/- Arguments opened where the row is narrowed to a bulk: whatever reads as data of a type is an element of the print's kind for it, and no longer than its bulk. -/
namespace Go.Proofs.Ytinhlaiogkmkfaa.G
open Go.RowKit Go.Proofs.YtinhlaiogkmkfaaW.PrintWords
set_option linter.unusedVariables false
set_option linter.unusedSimpArgs false
open Go.Proofs.Ytinhlaiogkmkfaa.Rows (uptoBulk uptoBulkAll)
/-- Data of type t read as an α of kind d; bd: what its bulk says. -/
def OpensU (P : Program) (t : TypeId) {α : Type} (d : Kd α) (bd : α → Prop) : Prop :=
  ∀ {H : Type} {enc : TypeId × Value → H} {w : World} {base : Nat} {spare : Nat → Bool} {held : Bool} {fuel : Nat} {cs : List Value} {x : DataW H × List MemPlace},
    DataW.trod enc P w base spare held fuel t cs = some x → ∃ a : α, d.K w a cs ∧ (uptoBulk x.1 ≤ 1048576 → bd a)
theorem bulk_mem {H : Type} {l : List (DataW H)} {y : DataW H} (hy : y ∈ l) : uptoBulk y ≤ uptoBulkAll l := by
  induction l with
  | nil => cases hy
  | cons z r ih =>
    unfold uptoBulkAll
    rcases List.mem_cons.1 hy with rfl | h
    · omega
    · have := ih h; omega
theorem bulk_pos {H : Type} (d : DataW H) : 1 ≤ uptoBulk d := by
  cases d with
  | lit l => cases l <;> simp [uptoBulk]
  | _ => simp [uptoBulk]
theorem bulk_len {H : Type} (l : List (DataW H)) : l.length ≤ uptoBulkAll l := by
  induction l with
  | nil => simp
  | cons z r ih => unfold uptoBulkAll; have := bulk_pos z; simp; omega
section
variable {P : Program} {t e : TypeId} {α β : Type} {d : Kd α} {bd bd' : α → Prop}
theorem OpensU.mono (h : OpensU P t d bd) (hb : ∀ a, bd a → bd' a) : OpensU P t d bd' := by
  intro H enc w base spare held fuel cs x hx
  obtain ⟨a, h1, h2⟩ := h hx
  exact ⟨a, h1, fun hn => hb a (h2 hn)⟩
theorem opens_intU {k : IntKind} (ht : P.underlying t = some (.int k)) : OpensU P t (Kd.int k) (fun n => (Lit.int k n).wf = true) := by
  intro H enc w base spare held fuel cs x hx
  obtain ⟨n, rfl, _, hw⟩ := DataW.trod_int ht hx
  exact ⟨n, rfl, fun _ => hw⟩
theorem opens_stringU (ht : P.underlying t = some .string) : OpensU P t Kd.string (fun s => s.size ≤ 1048576) := by
  intro H enc w base spare held fuel cs x hx
  obtain ⟨s, rfl, rfl, _⟩ := DataW.trod_string ht hx
  refine ⟨s, rfl, fun hn => ?_⟩
  simp only [uptoBulk, Array.length_toList] at hn
  have e : s.size = s.data.size := rfl
  omega
theorem OpensU.iso (h : OpensU P t d bd) (f : β → α) (g : α → β) (hfg : ∀ a, f (g a) = a) : OpensU P t (Kd.iso d f) (fun b => bd (f b)) := by
  intro H enc w base spare held fuel cs x hx
  obtain ⟨a, h1, h2⟩ := h hx
  refine ⟨g a, ?_, fun hn => ?_⟩
  · show d.K w (f (g a)) cs
    rw [hfg]; exact h1
  · show bd (f (g a))
    rw [hfg]; exact h2 hn
theorem opens_sliceU (ht : P.underlying t = some (.slice e)) (h : OpensU P e d bd) (hs : d.sz = P.cellsOf e) (et : Nat) : OpensU P t (Kd.slice et d) (fun xs => (∀ a ∈ xs, bd a) ∧ xs.length ≤ 1048576) := by
  intro H enc w base spare held fuel cs x hx
  rcases DataW.trod_slice ht hx with ⟨rfl, rfl⟩ | ⟨a, len, cap, elems, rest, n, _, rfl, rfl, hb, hl, hm, hlen, hel, hsp, hns⟩
  · exact ⟨[], ⟨none, 0, rfl, Nat.le_refl _, Kd.C_nil d w⟩, fun _ => ⟨fun a ha => (by cases ha), (by simp)⟩⟩
  · have each : ∀ i, i < len → ∃ z : α, ∃ (c : List Value) (y : DataW H × List MemPlace), w.cells? base (a.add (i * P.cellsOf e)) (P.cellsOf e) = some c ∧ elems[i]? = some y ∧ d.K w z c ∧ (uptoBulk y.1 ≤ 1048576 → bd z) := by
      intro i hi
      have h1 := hel i hi
      rw [List.getElem?_eq_getElem (by omega), Option.bind_eq_some_iff] at h1
      obtain ⟨c, hc, hy⟩ := h1
      obtain ⟨z, hz, hbz⟩ := h hy
      exact ⟨z, c, _, hc, List.getElem?_eq_getElem (by omega), hz, hbz⟩
    obtain ⟨xs, hxl, hxs⟩ := list_of len each
    subst hxl
    refine ⟨xs, ⟨some a, cap, rfl, hl, rfl, by unfold maxLen at hm; omega, fun _ => ⟨a, rfl, fun j p hp => ?_⟩⟩, fun hn => ⟨fun z hz => ?_, ?_⟩⟩
    · obtain ⟨c, y, hc, _, hk, _⟩ := hxs j p hp
      obtain ⟨_, hcl, hcell⟩ := World.cells?_some hc
      refine ⟨c, by rw [hcl, hs], hk, fun i u hu => ?_⟩
      have hi : i < P.cellsOf e := by rw [← hcl]; exact (List.getElem?_eq_some_iff.1 hu).1
      have := hcell i hi
      rw [hu] at this
      rw [hs]
      rw [Addr.add_add] at this
      exact this
    · obtain ⟨j, hj⟩ := List.getElem?_of_mem hz
      obtain ⟨c, y, _, hy, _, hbz⟩ := hxs j z hj
      have h1 : uptoBulk y.1 ≤ uptoBulkAll (elems.map (·.1)) := bulk_mem (List.mem_map.2 ⟨y, List.mem_of_getElem? hy, rfl⟩)
      refine hbz ?_
      simp only [uptoBulk] at hn
      omega
    · have h1 := bulk_len (elems.map (·.1))
      simp only [uptoBulk] at hn
      simp at h1
      omega
/-- Fields that lie one behind the other, from cell o on. -/
def OpensLU (P : Program) (fs : List Field) (o : Nat) {α : Type} (d : Kd α) (bd : α → Prop) : Prop :=
  ∀ {H : Type} {enc : TypeId × Value → H} {w : World} {base : Nat} {spare : Nat → Bool} {held : Bool} {n : Nat} {cs : List Value} (xs : List (DataW H × List MemPlace)), xs.length = fs.length →
    (∀ (i : Nat) (f : Field), fs[i]? = some f → DataW.trod enc P w base spare held n f.type ((cs.drop f.offset).take (P.cellsOf f.type)) = xs[i]?) → cs.length = o + (fs.map fun f => P.cellsOf f.type).sum →
    ∃ a : α, d.K w a (cs.drop o) ∧ (uptoBulkAll (xs.map (·.1)) ≤ 1048576 → bd a)
theorem opensL_oneU {f : Field} {o : Nat} (ho : f.offset = o) (h : OpensU P f.type d bd) : OpensLU P [f] o d bd := by
  intro H enc w base spare held n cs xs hl hx hc
  match xs, hl with
  | [y], _ =>
    have h1 := hx 0 f rfl
    rw [ho] at h1
    have h2 : (cs.drop o).take (P.cellsOf f.type) = cs.drop o := List.take_of_length_le (by simp at hc; simp; omega)
    rw [h2] at h1
    obtain ⟨a, h3, h4⟩ := h h1
    exact ⟨a, h3, fun hm => h4 (by simpa [uptoBulkAll] using hm)⟩
theorem opensL_consU {f : Field} {fs : List Field} {o : Nat} {d' : Kd β} {bd2 : β → Prop} (ho : f.offset = o) (h : OpensU P f.type d bd) (hr : OpensLU P fs (o + P.cellsOf f.type) d' bd2) : OpensLU P (f :: fs) o (Kd.pair d d') (fun x => bd x.1 ∧ bd2 x.2) := by
  intro H enc w base spare held n cs xs hl hx hc
  match xs, hl with
  | y :: ys, hl =>
    have h1 := hx 0 f rfl
    rw [ho] at h1
    obtain ⟨a, h3, h4⟩ := h h1
    obtain ⟨b, h5, h6⟩ := hr ys (by simpa using hl) (fun i g hg => hx (i + 1) g hg) (by rw [hc]; simp; omega)
    refine ⟨(a, b), ⟨_, _, ?_, h3, h5⟩, fun hm => ⟨h4 ?_, h6 ?_⟩⟩
    · rw [← List.drop_drop, List.take_append_drop]
    · simp only [List.map_cons, uptoBulkAll] at hm
      omega
    · simp only [List.map_cons, uptoBulkAll] at hm
      omega
theorem opens_structU {fs : Array Field} (ht : P.underlying t = some (.struct fs)) (hc : P.cellsOf t = (fs.toList.map fun f => P.cellsOf f.type).sum) (h : OpensLU P fs.toList 0 d bd) : OpensU P t d bd := by
  intro H enc w base spare held fuel cs x hx
  obtain ⟨xs, n, _, rfl, hl, hxl, hf⟩ := DataW.trod_struct ht hx
  obtain ⟨a, h1, h2⟩ := h xs (by simpa using hxl) (fun i f hi => hf i f (by simpa using hi)) (by rw [hl, hc]; omega)
  refine ⟨a, by simpa using h1, fun hn => h2 ?_⟩
  simp only [uptoBulk] at hn
  omega
end
/-- An argument, opened. -/
theorem OpensU.arg {P : Program} {t : TypeId} {α : Type} {d : Kd α} {bd : α → Prop} (h : OpensU P t d bd) {H : Type} {enc : TypeId × Value → H} {W : World} {base : Nat} {spare : Nat → Bool} {held : Bool} {v : Value} {dt : DataW H} {ps : List MemPlace}
    (hd : DataW.Trod enc P W base spare held t v dt ps) : ∃ a : α, d.K W a v.cells.toList ∧ (uptoBulk dt ≤ 1048576 → bd a) := by
  obtain ⟨fuel, hx⟩ := hd
  exact h hx
end Go.Proofs.Ytinhlaiogkmkfaa.G
end
section
/- The arguments of chapter 12's narrowed laws, opened. -/
namespace Go.Proofs.Ytinhlaiogkmkfaa.PA
open Go.RowKit Go.Proofs.Ytinhlaiogkmkfaa.G Go.Proofs.YtinhlaiogkmkfaaW.PrintWords
set_option linter.unusedVariables false
set_option linter.unusedSimpArgs false
set_option maxRecDepth 100000
theorem o45U : OpensU Try.prog 45 k45 (fun x => x.f1.size ≤ 1048576) :=
  OpensU.mono (OpensU.iso (opens_structU Try.underlying45 (by rw [c45]; simp [c3, c9, c22]) (opensL_consU rfl (opens_intU Try.underlying3) (opensL_oneU (by simp [c3, c9, c22]) (opens_stringU Try.underlying9)))) (fun x : S45 => (x.f0, x.f1)) (fun p => ⟨p.1, p.2⟩) (fun _ => rfl)) fun _ h => h.2
theorem o22U : OpensU Try.prog 22 (Kd.slice 45 k45) (fun l => l.length ≤ 1048576 ∧ ∀ x ∈ l, x.f1.size ≤ 1048576) :=
  OpensU.mono (opens_sliceU Try.underlying22 o45U c45.symm 45) fun l h => ⟨h.2, h.1⟩
theorem o56U : OpensU Try.prog 56 k56 (fun x => x.f0.size ≤ 1048576 ∧ x.f1.size ≤ 1048576) :=
  OpensU.iso (opens_structU Try.underlying56 (by rw [c56]; simp [c3, c9, c22]) (opensL_consU rfl (opens_stringU Try.underlying9) (opensL_oneU (by simp [c3, c9, c22]) (opens_stringU Try.underlying9)))) (fun x : S56 => (x.f0, x.f1)) (fun p => ⟨p.1, p.2⟩) (fun _ => rfl)
theorem o23U : OpensU Try.prog 23 (Kd.slice 56 k56) (fun l => l.length ≤ 1048576 ∧ ∀ x ∈ l, x.f0.size ≤ 1048576 ∧ x.f1.size ≤ 1048576) :=
  OpensU.mono (opens_sliceU Try.underlying23 o56U c56.symm 56) fun l h => ⟨h.2, h.1⟩
end Go.Proofs.Ytinhlaiogkmkfaa.PA
end
