/- rule.say: what is checked has an answer. -/
import Derived.Test.YtinhlaiogkmkfaaQVd
import Derived.Test.YtinhlaiogkmkfaaQVg
namespace Go.Proofs.Ytinhlaiogkmkfaa.G
open Go.RowKit
set_option linter.unusedVariables false
theorem snoc_of {α : Type} {l : List α} {n : Nat} (h : l.length = n + 1) : ∃ s a, l = s ++ [a] ∧ s.length = n := by
  rcases List.eq_nil_or_concat l with rfl | ⟨s, a, rfl⟩
  · cases h
  · exact ⟨s, a, by simp, by simpa using h⟩
theorem lay1_ok {sv : List Vl} {n : Nat} (h : sv.length = n + 1) (f : Vl → Bool) : ∃ sv', lay1 sv f = some sv' ∧ sv'.length = n + 1 := by
  obtain ⟨s, a, rfl, hs⟩ := snoc_of h
  exact ⟨_, by unfold lay1; rw [pop1_snoc]; rfl, by simpa using hs⟩
theorem lay2_ok {sv : List Vl} {n : Nat} (h : sv.length = n + 2) (f : Vl → Vl → Bool) : ∃ sv', lay2 sv f = some sv' ∧ sv'.length = n + 1 := by
  obtain ⟨s, a, rfl, hs⟩ := snoc_of (n := n + 1) h
  obtain ⟨s, b, rfl, hs⟩ := snoc_of hs
  refine ⟨_, by unfold lay2; rw [pop1_snoc, Option.bind_some]; show Option.map _ (pop1 (s ++ [b])) = _; rw [pop1_snoc]; rfl, by simpa using hs⟩
theorem step_on (vs : List (ByteArray × ByteArray)) {st st' : List Prt} {sv : List Vl} {k : Int} {tx : ByteArray} (h : stepC st k tx = some st') (hl : sv.length = st.length) :
    ∃ sv', stepV vs k tx sv = some sv' ∧ sv'.length = st'.length := by
  have pop : ∀ {m : Nat} {t : Bool} {ok : List Prt → Bool}, (match popC st m t with | some (s, l) => if ok l && tx.toList.isEmpty then some (s ++ [tru]) else none | none => none) = some st' → ∃ n, st'.length = n + 1 ∧ sv.length = n + m := by
    intro m t ok e
    split at e
    · rename_i s l hp
      split at e
      · injection e with e
        subst e
        obtain ⟨rfl, h1, _⟩ := popC_parts hp
        exact ⟨s.length, by simp, by rw [hl]; simp [h1]⟩
      · cases e
    · cases e
  have lift : ∀ {b : Bool} {q : Prt} (v : Vl), (if b then some (st ++ [q]) else none) = some st' → ∃ sv', some (sv ++ [v]) = some sv' ∧ sv'.length = st'.length := by
    intro b q v e
    split at e
    · injection e with e
      subst e
      exact ⟨_, rfl, by simp [hl]⟩
    · cases e
  have one : ∀ {f : Vl → Bool}, (∃ n, st'.length = n + 1 ∧ sv.length = n + 1) → ∃ sv', lay1 sv f = some sv' ∧ sv'.length = st'.length := by
    rintro f ⟨n, h1, h2⟩
    rw [h1]
    exact lay1_ok h2 f
  have two : ∀ {f : Vl → Vl → Bool}, (∃ n, st'.length = n + 1 ∧ sv.length = n + 2) → ∃ sv', lay2 sv f = some sv' ∧ sv'.length = st'.length := by
    rintro f ⟨n, h1, h2⟩
    rw [h1]
    exact lay2_ok h2 f
  unfold stepC at h
  simp only [] at h
  split at h
  · rename_i hk
    subst hk
    split at h
    · injection h with h
      subst h
      exact ⟨_, rfl, by simp [hl]⟩
    · cases h
  split at h
  · rename_i hk
    subst hk
    exact lift _ h
  split at h
  · rename_i hk
    subst hk
    exact lift _ h
  split at h
  · rename_i hk
    rcases hk with rfl | rfl
    · exact lift _ h
    · exact lift _ h
  split at h
  · rename_i hk
    subst hk
    exact one (f := fun a => !a.text.toList.isEmpty) (pop (ok := fun _ => true) h)
  split at h
  · rename_i hk
    rcases hk with rfl | rfl
    · exact two (f := fun a b => a.text.toList == b.text.toList) (pop (ok := fun _ => true) h)
    · exact two (f := fun a b => !(a.text.toList == b.text.toList)) (pop (ok := fun _ => true) h)
  split at h
  · rename_i hk
    rcases hk with rfl | rfl
    · exact two (f := fun a b => (matchRes b.text a.text).1) (pop (ok := fun l => match l[1]? with | some q => q.lit && (checkRes q.text).2 == 0 | none => false) h)
    · exact two (f := fun a b => !(matchRes b.text a.text).1) (pop (ok := fun l => match l[1]? with | some q => q.lit && (checkRes q.text).2 == 0 | none => false) h)
  split at h
  · rename_i hk
    subst hk
    exact one (f := fun a => !a.ok) (pop (ok := fun _ => true) h)
  split at h
  · rename_i hk
    rcases hk with rfl | rfl
    · exact two (f := fun a b => a.ok && b.ok) (pop (ok := fun _ => true) h)
    · exact two (f := fun a b => a.ok || b.ok) (pop (ok := fun _ => true) h)
  · cases h
theorem run_on (vs : List (ByteArray × ByteArray)) : ∀ (t : List (Int × ByteArray)) {st st' : List Prt} {sv : List Vl}, runC t st = some st' → sv.length = st.length → ∃ sv', runV vs t sv = some sv' ∧ sv'.length = st'.length := by
  intro t
  induction t with
  | nil =>
    intro st st' sv h hl
    injection h with h
    subst h
    exact ⟨sv, rfl, hl⟩
  | cons q r ih =>
    intro st st' sv h hl
    unfold runC at h
    rw [Option.bind_eq_some_iff] at h
    obtain ⟨s1, h1, h2⟩ := h
    obtain ⟨v1, h3, h4⟩ := step_on vs h1 hl
    obtain ⟨v2, h5, h6⟩ := ih h2 h4
    exact ⟨v2, by unfold runV; rw [h3]; exact h5, h6⟩
theorem say_some (vs : List (ByteArray × ByteArray)) {t : List (Int × ByteArray)} (h : checkB t = true) : ∃ b, sayV vs t = some b := by
  unfold checkB at h
  rw [Bool.and_eq_true] at h
  cases hr : runC t [] with
  | none => rw [hr] at h; cases h.2
  | some st =>
    rw [hr] at h
    match st, h.2 with
    | [q], _ =>
      obtain ⟨sv, h1, h2⟩ := run_on vs t (sv := []) hr rfl
      obtain ⟨s, a, rfl, _⟩ := snoc_of (n := 0) h2
      exact ⟨a.ok, by unfold sayV; rw [h1, Option.bind_some, pop1_snoc]; rfl⟩
theorem check_len {t : List (Int × ByteArray)} (h : checkB t = true) : t.length ≤ 1024 := by
  unfold checkB at h
  rw [Bool.and_eq_true] at h
  simpa using h.1
end Go.Proofs.Ytinhlaiogkmkfaa.G
