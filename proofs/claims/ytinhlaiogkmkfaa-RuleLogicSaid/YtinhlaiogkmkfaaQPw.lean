/- When's rules: what the functions of the law compute. -/
import Derived.Test.YtinhlaiogkmkfaaQPAx9
import Derived.Test.YtinhlaiogkmkfaaQPs
namespace Go.Proofs.Ytinhlaiogkmkfaa.PA
open Go.RowKit Go.Proofs.YtinhlaiogkmkfaaW.PrintWords Go.Proofs.YtinhlaiogkmkfaaW.PrintLast Go.Proofs.YtinhlaiogkmkfaaW.PrintMore
set_option linter.unusedVariables false
/-- The sizes that a row's arguments have. -/
structure StepsFit (l : List S45) : Prop where
  len : l.length < 5864062014805
  each : ∀ x ∈ l, x.f1.size ≤ 140737488351232
structure VarsFit (l : List S56) : Prop where
  len : l.length < 4398046511104
  each : ∀ x ∈ l, x.f0.size ≤ 140737488351232 ∧ x.f1.size ≤ 140737488351232
structure RulesFit (l : List S48) : Prop where
  len : l.length ≤ 4398046511104
  each : ∀ x ∈ l, StepsFit x.f0
theorem copySteps_eq {l : List S45} (h : l.length < 5864062014805) : shuttlelaw0_CopySteps.f l = some l := by
  unfold shuttlelaw0_CopySteps.f
  simp [h]
theorem copyVars_eq {l : List S56} (h : l.length < 4398046511104) : shuttlelaw0_CopyVars.f l = some l := by
  unfold shuttlelaw0_CopyVars.f
  simp [h]
theorem RulesFit.take {l : List S48} (h : RulesFit l) (n : Nat) : RulesFit (l.take n) :=
  ⟨by have := h.len; rw [List.length_take]; omega, fun x hx => h.each x (List.mem_of_mem_take hx)⟩
/-- A rule's expression is one. -/
def okC (l : List S45) : Bool := G.checkB (expr_Check.prs l)
theorem check_eq {l : List S45} (h : StepsFit l) : expr_Check.f l = some (okC l) := by
  unfold expr_Check.f
  rw [if_pos]
  · rfl
  · unfold expr_Check.fit
    rw [Bool.and_eq_true, decide_eq_true_eq, List.all_eq_true]
    exact ⟨by have := h.len; omega, fun x hx => decide_eq_true (by have := h.each x hx; omega)⟩
/-- What a checked expression says. -/
def sayB (l : List S45) (vs : List S56) : Bool := (rule_say.f l vs).getD false
theorem say_eq {l : List S45} {vs : List S56} (h : StepsFit l) (hv : VarsFit vs) (hc : okC l = true) : rule_say.f l vs = some (sayB l vs) := by
  obtain ⟨b, hb⟩ := G.say_some (rule_say.vrs vs) hc
  have hl := G.check_len hc
  have hl' : l.length ≤ 1024 := by simpa [expr_Check.prs] using hl
  have hf : rule_say.fit l vs = true := by
    unfold rule_say.fit
    rw [Bool.and_eq_true, Bool.and_eq_true, Bool.and_eq_true, decide_eq_true_eq, decide_eq_true_eq, List.all_eq_true, List.all_eq_true]
    exact ⟨⟨by omega, fun x hx => decide_eq_true (by have := h.each x hx; omega)⟩, by have := hv.len; omega, fun x hx => decide_eq_true (by have := (hv.each x hx).2; omega)⟩
  have : rule_say.f l vs = some b := by
    unfold rule_say.f
    rw [if_pos hf]
    exact hb
  unfold sayB
  rw [this]
  rfl
/-- A rule that holds. -/
def holds (vs : List S56) (r : S48) : Bool := r.f0.isEmpty || sayB r.f0 vs
theorem eval_eq {l : List S45} {vs : List S56} (h : StepsFit l) (hv : VarsFit vs) (hc : okC l = true) : rule_Eval.f l vs = some (sayB l vs, 0) := by
  unfold rule_Eval.f
  rw [check_eq h, Option.bind_some, if_pos hc, say_eq h hv hc]
  rfl
/-- How far the law's search has come. -/
def Found (vs : List S56) (l : List S48) (i : Nat) (x : Int) : Prop :=
  (x = -1 ∧ ∀ m (h : m < l.length), i ≤ m → holds vs l[m] = false) ∨ (∃ j : Nat, ∃ h : j < l.length, x = (j : Int) ∧ i ≤ j ∧ holds vs l[j] = true ∧ ∀ m (h : m < j), i ≤ m → holds vs (l[m]'(by omega)) = false)
theorem Found.no {vs : List S56} {l : List S48} {i : Nat} {x : Int} (hi : i < l.length) (h : holds vs l[i] = false) (hf : Found vs l (i + 1) x) : Found vs l i x := by
  rcases hf with ⟨rfl, h1⟩ | ⟨j, hj, rfl, h1, h2, h3⟩
  · refine .inl ⟨rfl, fun m hm h2 => ?_⟩
    by_cases e : m = i
    · subst e; exact h
    · exact h1 m hm (by omega)
  · refine .inr ⟨j, hj, rfl, by omega, h2, fun m hm h4 => ?_⟩
    by_cases e : m = i
    · subst e; exact h
    · exact h3 m hm (by omega)
end Go.Proofs.Ytinhlaiogkmkfaa.PA
