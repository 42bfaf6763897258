/- RuleWhens: the row. Any list of rules says when a job may start as the document says; rules and variables stay. -/
import Derived.Test.YtinhlaiogkmkfaaRows
import Derived.Test.YtinhlaiogkmkfaaQPAx9
import Derived.Test.YtinhlaiogkmkfaaQTe
import Derived.WalkKit
import Derived.ProofKit
import Derived.OpenShut
import Derived.ShutString
import Derived.ChangeOld
import Derived.Below
import Derived.Carry
import Derived.SizedLaws
namespace Go.Proofs.Ytinhlaiogkmkfaa.ruleWhens
open Go.ChangeShapes Go.WideShapes Go.ChangeAt Go.RowKit
open Go.ChangeMaps (open_string shut_string)
set_option linter.unusedVariables false
set_option linter.unusedSimpArgs false
theorem own : ownKnob Try.prog.godebug = none := by kernel_rfl
theorem laid : laidOutB Try.prog = true := by kernel_rfl
set_option maxRecDepth 100000 in
theorem lifted (os : Os) (started : os.Started) (H : Type) (enc : TypeId × Value → H) :
    ReturnsInHanded {} Try.checked os 5 .any (Rows.ruleWhensSpec.pre6 enc Try.prog Try.f5 Rows.ruleWhensRow.domain false) (Rows.ruleWhensSpec.post enc Try.prog Try.f5 false true false false) := by
  refine returnsInHanded_of_change_sized (C := Try.checked) own started (by kernel_rfl) Try.func5
    (ChangeSpec.witness6 (enc := enc) (C := Try.checked) false ⟨#[], #[.slice none 0 0, .int .i64 0, .slice none 0 0], []⟩ 8 (by kernel_rfl) (by kernel_rfl) (by kernel_rfl) (by kernel_rfl)) ?_
  intro W base args ds gs before hval0 hW hcnd hsz0 _
  have hsz : (DataW.weightsEach Try.prog (Try.f5.params.toList ++ Rows.ruleWhensSpec.plain.varTypes Try.prog) (ds ++ gs)).all (· ≤ reachBytes) = true := hsz0
  have hval : ∀ (j : Nat) t v, Try.f5.params[j]? = some t → args[j]? = some v → Value.okWide Try.prog W .any base t v := hval0
  have hW' := hW
  obtain ⟨p, q, hA0, hV, rfl, hfz, hnd⟩ := hW
  have hA : DataW.TrodAll enc Try.prog W 0 (fun _ => true) true Try.f5.params.toList args.toList ds p := hA0
  rw [Try.params5] at hA hval hsz
  obtain ⟨v0, vs0, d0, ds0, p0, q0, hargs, rfl, rfl, h0, r0⟩ := trodAll_cons hA
  obtain ⟨v1, vs1, d1, ds1, p1, q1, rfl, rfl, rfl, h1, r1⟩ := trodAll_cons r0
  obtain ⟨v2, vs2, d2, ds2, p2, q2, rfl, rfl, rfl, h2, r2⟩ := trodAll_cons r1
  obtain ⟨rfl, rfl, rfl⟩ := trodAll_nil r2
  obtain rfl : args = #[v0, v1, v2] := by cases args; simp_all
  obtain ⟨rfl, rfl⟩ := trodVars_none hV
  have hlt : ∀ x ∈ p0 ++ (p1 ++ (p2 ++ [])) ++ [], x.block < W.heap.size := fun x hx => by simpa using hW'.lt x hx
  obtain ⟨A0, n0, c0, rfl⟩ := okWide_slice Try.underlying36 (hval 0 36 v0 rfl rfl)
  obtain ⟨a1, rfl, rfl, rfl, y1⟩ := open_int Try.underlying3 (hval 1 3 v1 rfl rfl) h1
  obtain ⟨A2, n2, c2, rfl⟩ := okWide_slice Try.underlying23 (hval 2 23 v2 rfl rfl)
  obtain ⟨l0, ⟨B0, e0, hs0, hc0, hC0⟩, hb0⟩ := Go.Proofs.Ytinhlaiogkmkfaa.G.Opens.arg PA.o36 h0
  obtain ⟨l2, ⟨B2, e2, hs2, hc2, hC2⟩, hb2⟩ := Go.Proofs.Ytinhlaiogkmkfaa.G.Opens.arg PA.o23R h2
  simp [Value.cells] at hs0 hs2
  obtain ⟨rfl, rfl, rfl⟩ := hs0
  obtain ⟨rfl, rfl, rfl⟩ := hs2
  obtain ⟨k, hk'⟩ := (⟨0, (hb0 (Go.Proofs.Ytinhlaiogkmkfaa.G.weights_each hsz 0 36 d0 rfl rfl)), (hb2 (Go.Proofs.Ytinhlaiogkmkfaa.G.weights_each hsz 2 23 d2 rfl rfl))⟩ : ∃ _k : Nat, PA.RulesFit l0 ∧ (PA.VarsFit l2 ∧ l2.length < 4398046511102))
  clear hA0 hval0 hsz0 hsz
  refine (PA.ruleWhens0 k A0 c0 l0 a1 A2 c2 l2 true ⟨rfl⟩ W hC0 hc0 hC2 hc2 hk').mono fun e W' ⟨he, bel⟩ => ?_
  subst he
  have g0 := Below.trod laid (by kernel_rfl) (of_decide_eq_true (by kernel_rfl)) h0 bel (fun x hx => hlt x (by simp [hx]))
  have g2 := Below.trod laid (by kernel_rfl) (of_decide_eq_true (by kernel_rfl)) h2 bel (fun x hx => hlt x (by simp [hx]))
  exact ⟨_, rfl, _, _, _, [], _, [], hW', trodAll_mk1 (shut_bool Try.underlying4 _), (trodAll_cons_mk g0 (trodAll_cons_mk (shut_int Try.underlying3 y1) (trodAll_cons_mk g2 trodAll_mk0))), rfl, bel.frame _, fun h => by cases h⟩
theorem over : Rows.ruleWhensRow.holds Try.pinned (OpenSpec.ofChange Rows.ruleWhensSpec) :=
  OpenClaim.holds_of_wide 5 Try.f5 rfl rfl rfl rfl rfl rfl rfl ⟨rfl, rfl, rfl, rfl, rfl⟩ rfl rfl rfl rfl rfl (by kernel_rfl) Try.func5 (by kernel_rfl)
    (of_decide_eq_true (by kernel_rfl)) (by unfold Func.isWrapper; first | (rw [if_pos (by decide +kernel)]; kernel_rfl) | (rw [if_neg (by decide +kernel)]; exact ⟨rfl, rfl⟩))
    (fun os started H enc _ => lifted os started H enc)
theorem proved : Rows.RuleWhensSaid := over
#print axioms proved
end Go.Proofs.Ytinhlaiogkmkfaa.ruleWhens
namespace Go.Proofs.Ytinhlaiogkmkfaa
/-- The row, under a short name, for the claim. -/
theorem ruleWhens_holds : Rows.RuleWhensSaid := ruleWhens.proved
end Go.Proofs.Ytinhlaiogkmkfaa
