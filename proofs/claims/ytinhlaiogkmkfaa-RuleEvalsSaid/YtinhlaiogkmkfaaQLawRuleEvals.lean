/- RuleEvals: the row. Any expression says of any variables what the document says; both stay. -/
import Derived.Test.YtinhlaiogkmkfaaRows
import Derived.Test.YtinhlaiogkmkfaaQPAx9
import Derived.Test.YtinhlaiogkmkfaaQLh
import Derived.WalkKit
import Derived.ProofKit
import Derived.OpenShut
import Derived.ShutString
import Derived.ChangeOld
import Derived.Below
import Derived.Carry
import Derived.SizedLaws
namespace Go.Proofs.Ytinhlaiogkmkfaa.ruleEvals
open Go.ChangeShapes Go.WideShapes Go.ChangeAt Go.RowKit
open Go.ChangeMaps (open_string shut_string)
set_option linter.unusedVariables false
set_option linter.unusedSimpArgs false
theorem own : ownKnob Try.prog.godebug = none := by kernel_rfl
theorem laid : laidOutB Try.prog = true := by kernel_rfl
set_option maxRecDepth 100000 in
theorem lifted (os : Os) (started : os.Started) (H : Type) (enc : TypeId × Value → H) :
    ReturnsInHanded {} Try.checked os 3 .any (Rows.ruleEvalsSpec.pre6 enc Try.prog Try.f3 Rows.ruleEvalsRow.domain false) (Rows.ruleEvalsSpec.post enc Try.prog Try.f3 false true false false) := by
  refine returnsInHanded_of_change_sized (C := Try.checked) own started (by kernel_rfl) Try.func3
    (ChangeSpec.witness6 (enc := enc) (C := Try.checked) false ⟨#[], #[.slice none 0 0, .slice none 0 0], []⟩ 8 (by kernel_rfl) (by kernel_rfl) (by kernel_rfl) (by kernel_rfl)) ?_
  intro W base args ds gs before hval0 hW hcnd hsz0 _
  have hsz : (DataW.weightsEach Try.prog (Try.f3.params.toList ++ Rows.ruleEvalsSpec.plain.varTypes Try.prog) (ds ++ gs)).all (· ≤ reachBytes) = true := hsz0
  have hval : ∀ (j : Nat) t v, Try.f3.params[j]? = some t → args[j]? = some v → Value.okWide Try.prog W .any base t v := hval0
  have hW' := hW
  obtain ⟨p, q, hA0, hV, rfl, hfz, hnd⟩ := hW
  have hA : DataW.TrodAll enc Try.prog W 0 (fun _ => true) true Try.f3.params.toList args.toList ds p := hA0
  rw [Try.params3] at hA hval hsz
  obtain ⟨v0, vs0, d0, ds0, p0, q0, hargs, rfl, rfl, h0, r0⟩ := trodAll_cons hA
  obtain ⟨v1, vs1, d1, ds1, p1, q1, rfl, rfl, rfl, h1, r1⟩ := trodAll_cons r0
  obtain ⟨rfl, rfl, rfl⟩ := trodAll_nil r1
  obtain rfl : args = #[v0, v1] := by cases args; simp_all
  obtain ⟨rfl, rfl⟩ := trodVars_none hV
  have hlt : ∀ x ∈ p0 ++ (p1 ++ []) ++ [], x.block < W.heap.size := fun x hx => by simpa using hW'.lt x hx
  obtain ⟨A0, n0, c0, rfl⟩ := okWide_slice Try.underlying22 (hval 0 22 v0 rfl rfl)
  obtain ⟨A1, n1, c1, rfl⟩ := okWide_slice Try.underlying23 (hval 1 23 v1 rfl rfl)
  obtain ⟨l0, ⟨B0, e0, hs0, hc0, hC0⟩, hb0⟩ := Go.Proofs.Ytinhlaiogkmkfaa.G.Opens.arg PA.o22R h0
  obtain ⟨l1, ⟨B1, e1, hs1, hc1, hC1⟩, hb1⟩ := Go.Proofs.Ytinhlaiogkmkfaa.G.Opens.arg PA.o23R h1
  simp [Value.cells] at hs0 hs1
  obtain ⟨rfl, rfl, rfl⟩ := hs0
  obtain ⟨rfl, rfl, rfl⟩ := hs1
  obtain ⟨k, hk'⟩ := (⟨0, (hb0 (Go.Proofs.Ytinhlaiogkmkfaa.G.weights_each hsz 0 22 d0 rfl rfl)), (hb1 (Go.Proofs.Ytinhlaiogkmkfaa.G.weights_each hsz 1 23 d1 rfl rfl))⟩ : ∃ _k : Nat, (PA.StepsFit l0 ∧ l0.length < 5864062014803) ∧ (PA.VarsFit l1 ∧ l1.length < 4398046511102))
  clear hA0 hval0 hsz0 hsz
  refine (PA.ruleEvals0 k A0 c0 l0 A1 c1 l1 true ⟨rfl⟩ W hC0 hc0 hC1 hc1 hk').mono fun e W' ⟨he, bel⟩ => ?_
  subst he
  have g0 := Below.trod laid (by kernel_rfl) (of_decide_eq_true (by kernel_rfl)) h0 bel (fun x hx => hlt x (by simp [hx]))
  have g1 := Below.trod laid (by kernel_rfl) (of_decide_eq_true (by kernel_rfl)) h1 bel (fun x hx => hlt x (by simp [hx]))
  exact ⟨_, rfl, _, _, _, [], _, [], hW', trodAll_mk1 (shut_bool Try.underlying4 _), (trodAll_cons_mk g0 (trodAll_cons_mk g1 trodAll_mk0)), rfl, bel.frame _, fun h => by cases h⟩
theorem over : Rows.ruleEvalsRow.holds Try.pinned (OpenSpec.ofChange Rows.ruleEvalsSpec) :=
  OpenClaim.holds_of_wide 3 Try.f3 rfl rfl rfl rfl rfl rfl rfl ⟨rfl, rfl, rfl, rfl, rfl⟩ rfl rfl rfl rfl rfl (by kernel_rfl) Try.func3 (by kernel_rfl)
    (of_decide_eq_true (by kernel_rfl)) (by unfold Func.isWrapper; first | (rw [if_pos (by decide +kernel)]; kernel_rfl) | (rw [if_neg (by decide +kernel)]; exact ⟨rfl, rfl⟩))
    (fun os started H enc _ => lifted os started H enc)
theorem proved : Rows.RuleEvalsSaid := over
#print axioms proved
end Go.Proofs.Ytinhlaiogkmkfaa.ruleEvals
namespace Go.Proofs.Ytinhlaiogkmkfaa
/-- The row, under a short name, for the claim. -/
theorem ruleEvals_holds : Rows.RuleEvalsSaid := ruleEvals.proved
end Go.Proofs.Ytinhlaiogkmkfaa
