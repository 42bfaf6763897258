/- Arguments opened: whatever reads as data of a type is an element of the print's kind for it. -/
import Derived.Test.YtinhlaiogkmkfaaQWMore
import Derived.OpenShut
import Derived.SizedLaws
import Derived.DataReads
namespace Go.Proofs.Ytinhlaiogkmkfaa.G
open Go.RowKit Go.Proofs.YtinhlaiogkmkfaaW.PrintWords
set_option linter.unusedVariables false
set_option linter.unusedSimpArgs false
/-- Data of type t read as an α of kind d; bd: what its sizes say. -/
def Opens (P : Program) (t : TypeId) {α : Type} (d : Kd α) (bd : α → Prop) : Prop :=
  ∀ {H : Type} {enc : TypeId × Value → H} {w : World} {base : Nat} {spare : Nat → Bool} {held : Bool} {fuel : Nat} {cs : List Value} {x : DataW H × List MemPlace},
    DataW.trod enc P w base spare held fuel t cs = some x → ∃ a : α, d.K w a cs ∧ ((∀ n ∈ DataW.weights P t x.1, n ≤ reachBytes) → bd a)
section
variable {P : Program} {t e : TypeId} {α β : Type} {d : Kd α} {bd bd' : α → Prop}
theorem Opens.mono (h : Opens P t d bd) (hb : ∀ a, bd a → bd' a) : Opens P t d bd' := by
  intro H enc w base spare held fuel cs x hx
  obtain ⟨a, h1, h2⟩ := h hx
  exact ⟨a, h1, fun hn => hb a (h2 hn)⟩
theorem opens_int {k : IntKind} (ht : P.underlying t = some (.int k)) : Opens P t (Kd.int k) (fun n => (Lit.int k n).wf = true) := by
  intro H enc w base spare held fuel cs x hx
  obtain ⟨n, rfl, _, hw⟩ := DataW.trod_int ht hx
  exact ⟨n, rfl, fun _ => hw⟩
theorem opens_string (ht : P.underlying t = some .string) : Opens P t Kd.string (fun s => s.size ≤ 140737488351232) := by
  intro H enc w base spare held fuel cs x hx
  obtain ⟨s, rfl, rfl, _⟩ := DataW.trod_string ht hx
  refine ⟨s, rfl, fun hn => ?_⟩
  have := hn s.data.toList.length (by simp [DataW.weights])
  rw [Array.length_toList] at this
  exact this
theorem Opens.iso (h : Opens P t d bd) (f : β → α) (g : α → β) (hfg : ∀ a, f (g a) = a) : Opens P t (Kd.iso d f) (fun b => bd (f b)) := by
  intro H enc w base spare held fuel cs x hx
  obtain ⟨a, h1, h2⟩ := h hx
  refine ⟨g a, ?_, fun hn => ?_⟩
  · show d.K w (f (g a)) cs
    rw [hfg]; exact h1
  · show bd (f (g a))
    rw [hfg]; exact h2 hn
theorem list_of {Q : Nat → α → Prop} : ∀ n, (∀ i, i < n → ∃ z, Q i z) → ∃ xs : List α, xs.length = n ∧ ∀ i x, xs[i]? = some x → Q i x := by
  intro n
  induction n with
  | zero => intro _; exact ⟨[], rfl, fun i x h => by simp at h⟩
  | succ n ih =>
    intro h
    obtain ⟨xs, hl, hq⟩ := ih (fun i hi => h i (by omega))
    obtain ⟨z, hz⟩ := h n (by omega)
    refine ⟨xs ++ [z], by simp [hl], fun i x hx => ?_⟩
    by_cases hi : i < xs.length
    · rw [List.getElem?_append_left hi] at hx
      exact hq i x hx
    · rw [List.getElem?_append_right (by omega)] at hx
      have : i - xs.length = 0 := by
        cases hk : i - xs.length with
        | zero => rfl
        | succ k => rw [hk] at hx; simp at hx
      rw [this] at hx
      simp at hx
      subst hx
      rw [show i = n by omega]
      exact hz
theorem weightsAll_mem {H : Type} {P : Program} {e : TypeId} {l : List (DataW H)} {y : DataW H} (hy : y ∈ l) : ∀ n ∈ DataW.weights P e y, n ∈ DataW.weightsAll P e l := by
  induction l with
  | nil => cases hy
  | cons z r ih =>
    intro n hn
    unfold DataW.weightsAll
    rcases List.mem_cons.1 hy with rfl | h
    · exact List.mem_append_left _ hn
    · exact List.mem_append_right _ (ih h n hn)
theorem opens_slice (ht : P.underlying t = some (.slice e)) (h : Opens P e d bd) (hs : d.sz = P.cellsOf e) (et : Nat) : Opens P t (Kd.slice et d) (fun xs => (∀ a ∈ xs, bd a) ∧ xs.length * P.bytesOf e ≤ 140737488351232) := by
  intro H enc w base spare held fuel cs x hx
  rcases DataW.trod_slice ht hx with ⟨rfl, rfl⟩ | ⟨a, len, cap, elems, rest, n, _, rfl, rfl, hb, hl, hm, hlen, hel, hsp, hns⟩
  · exact ⟨[], ⟨none, 0, rfl, Nat.le_refl _, Kd.C_nil d w⟩, fun _ => ⟨fun a ha => (by cases ha), (by simp)⟩⟩
  · have each : ∀ i, i < len → ∃ z : α, ∃ (c : List Value) (y : DataW H × List MemPlace), w.cells? base (a.add (i * P.cellsOf e)) (P.cellsOf e) = some c ∧ elems[i]? = some y ∧ d.K w z c ∧ ((∀ n ∈ DataW.weights P e y.1, n ≤ reachBytes) → bd z) := by
      intro i hi
      have h1 := hel i hi
      rw [List.getElem?_eq_getElem (by omega), Option.bind_eq_some_iff] at h1
      obtain ⟨c, hc, hy⟩ := h1
      obtain ⟨z, hz, hbz⟩ := h hy
      exact ⟨z, c, _, hc, List.getElem?_eq_getElem (by omega), hz, hbz⟩
    obtain ⟨xs, hxl, hxs⟩ := list_of len each
    subst hxl
    refine ⟨xs, ⟨some a, cap, rfl, hl, rfl, by unfold maxLen at hm; omega, fun _ => ⟨a, rfl, fun j p hp => ?_⟩⟩, fun hn => ⟨fun z hz => ?_, ?_⟩⟩
    · obtain ⟨c, y, hc, _, hk, _⟩ := hxs j p hp
      obtain ⟨_, hcl, hcell⟩ := World.cells?_some hc
      refine ⟨c, by rw [hcl, hs], hk, fun i u hu => ?_⟩
      have hi : i < P.cellsOf e := by rw [← hcl]; exact (List.getElem?_eq_some_iff.1 hu).1
      have := hcell i hi
      rw [hu] at this
      rw [hs]
      rw [Addr.add_add] at this
      exact this
    · obtain ⟨j, hj⟩ := List.getElem?_of_mem hz
      obtain ⟨c, y, _, hy, _, hbz⟩ := hxs j z hj
      refine hbz fun m hm => hn m ?_
      simp only [DataW.weights, ht]
      refine List.mem_cons_of_mem _ (List.mem_append_left _ (weightsAll_mem (y := y.1) ?_ m hm))
      exact List.mem_map.2 ⟨y, List.mem_of_getElem? hy, rfl⟩
    · have h1 := hn ((elems.length + rest.length) * P.bytesOf e) (by simp [DataW.weights, ht])
      refine Nat.le_trans (Nat.mul_le_mul_right _ ?_) h1
      omega
/-- Fields that lie one behind the other, from cell o on. -/
def OpensL (P : Program) (fs : List Field) (o : Nat) {α : Type} (d : Kd α) (bd : α → Prop) : Prop :=
  ∀ {H : Type} {enc : TypeId × Value → H} {w : World} {base : Nat} {spare : Nat → Bool} {held : Bool} {n : Nat} {cs : List Value} (xs : List (DataW H × List MemPlace)), xs.length = fs.length →
    (∀ (i : Nat) (f : Field), fs[i]? = some f → DataW.trod enc P w base spare held n f.type ((cs.drop f.offset).take (P.cellsOf f.type)) = xs[i]?) → cs.length = o + (fs.map fun f => P.cellsOf f.type).sum →
    ∃ a : α, d.K w a (cs.drop o) ∧ ((∀ m ∈ DataW.weightsEach P (fs.map (·.type)) (xs.map (·.1)), m ≤ reachBytes) → bd a)
theorem opensL_one {f : Field} {o : Nat} (ho : f.offset = o) (h : Opens P f.type d bd) : OpensL P [f] o d bd := by
  intro H enc w base spare held n cs xs hl hx hc
  match xs, hl with
  | [y], _ =>
    have h1 := hx 0 f rfl
    rw [ho] at h1
    have h2 : (cs.drop o).take (P.cellsOf f.type) = cs.drop o := List.take_of_length_le (by simp at hc; simp; omega)
    rw [h2] at h1
    obtain ⟨a, h3, h4⟩ := h h1
    exact ⟨a, h3, fun hm => h4 (fun m hmm => hm m (by simpa [DataW.weightsEach] using hmm))⟩
theorem opensL_cons {f : Field} {fs : List Field} {o : Nat} {d' : Kd β} {bd2 : β → Prop} (ho : f.offset = o) (h : Opens P f.type d bd) (hr : OpensL P fs (o + P.cellsOf f.type) d' bd2) : OpensL P (f :: fs) o (Kd.pair d d') (fun x => bd x.1 ∧ bd2 x.2) := by
  intro H enc w base spare held n cs xs hl hx hc
  match xs, hl with
  | y :: ys, hl =>
    have h1 := hx 0 f rfl
    rw [ho] at h1
    obtain ⟨a, h3, h4⟩ := h h1
    obtain ⟨b, h5, h6⟩ := hr ys (by simpa using hl) (fun i g hg => hx (i + 1) g hg) (by rw [hc]; simp; omega)
    refine ⟨(a, b), ⟨_, _, ?_, h3, h5⟩, fun hm => ⟨h4 fun m hmm => hm m ?_, h6 fun m hmm => hm m ?_⟩⟩
    · rw [← List.drop_drop, List.take_append_drop]
    · simp only [List.map_cons, DataW.weightsEach]
      exact List.mem_append_left _ hmm
    · simp only [List.map_cons, DataW.weightsEach]
      exact List.mem_append_right _ hmm
theorem opens_struct {fs : Array Field} (ht : P.underlying t = some (.struct fs)) (hc : P.cellsOf t = (fs.toList.map fun f => P.cellsOf f.type).sum) (h : OpensL P fs.toList 0 d bd) : Opens P t d bd := by
  intro H enc w base spare held fuel cs x hx
  obtain ⟨xs, n, _, rfl, hl, hxl, hf⟩ := DataW.trod_struct ht hx
  obtain ⟨a, h1, h2⟩ := h xs (by simpa using hxl) (fun i f hi => hf i f (by simpa using hi)) (by rw [hl, hc]; omega)
  refine ⟨a, by simpa using h1, fun hn => h2 fun m hm => hn m ?_⟩
  simp only [DataW.weights, ht]
  exact hm
end
/-- An argument, opened. -/
theorem Opens.arg {P : Program} {t : TypeId} {α : Type} {d : Kd α} {bd : α → Prop} (h : Opens P t d bd) {H : Type} {enc : TypeId × Value → H} {W : World} {base : Nat} {spare : Nat → Bool} {held : Bool} {v : Value} {dt : DataW H} {ps : List MemPlace}
    (hd : DataW.Trod enc P W base spare held t v dt ps) : ∃ a : α, d.K W a v.cells.toList ∧ ((∀ n ∈ DataW.weights P t dt, n ≤ reachBytes) → bd a) := by
  obtain ⟨fuel, hx⟩ := hd
  exact h hx
theorem weights_each {H : Type} {P : Program} : ∀ {ts : List TypeId} {ds : List (DataW H)}, (DataW.weightsEach P ts ds).all (· ≤ reachBytes) = true → ∀ (j : Nat) (t : TypeId) (dt : DataW H), ts[j]? = some t → ds[j]? = some dt → ∀ n ∈ DataW.weights P t dt, n ≤ reachBytes := by
  intro ts
  induction ts with
  | nil => intro ds _ j t dt ht; simp at ht
  | cons u us ih =>
    intro ds hall j t dt ht hd n hn
    match ds, hd with
    | x :: r, hd =>
      simp only [DataW.weightsEach, List.all_append, Bool.and_eq_true] at hall
      cases j with
      | zero =>
        simp at ht hd
        subst ht hd
        simpa using List.all_eq_true.1 hall.1 n hn
      | succ j => exact ih hall.2 j t dt (by simpa using ht) (by simpa using hd) n hn
end Go.Proofs.Ytinhlaiogkmkfaa.G
