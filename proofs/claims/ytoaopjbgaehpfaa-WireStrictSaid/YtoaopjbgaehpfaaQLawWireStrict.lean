/- WireStrict: the row. It rests on the contracts of wire.Decode, wire.Encode, plan.Check, CopyPlan and SamePlan, and on the plain law that what is read was written. -/
import Derived.Test.YtoaopjbgaehpfaaRows
import Derived.Test.YtoaopjbgaehpfaaQMp
import Derived.WalkKit
import Derived.ProofKit
import Derived.OpenShut
import Derived.ShutString
import Derived.ChangeOld
import Derived.Below
import Derived.Carry
import Derived.SizedLaws
namespace Go.Proofs.Ytoaopjbgaehpfaa.wireStrict
open Go.ChangeShapes Go.WideShapes Go.ChangeAt Go.RowKit
set_option linter.unusedVariables false
set_option linter.unusedSimpArgs false
theorem own : ownKnob Try.prog.godebug = none := by kernel_rfl
theorem laid : laidOutB Try.prog = true := by kernel_rfl
set_option maxRecDepth 100000 in
theorem lifted (os : Os) (started : os.Started) (H : Type) (enc : TypeId × Value → H) :
    ReturnsInHanded {} Try.checked os 4 .any (Rows.wireStrictSpec.pre6 enc Try.prog Try.f4 Rows.wireStrictRow.domain false) (Rows.wireStrictSpec.post enc Try.prog Try.f4 false true false false) := by
  refine returnsInHanded_of_change_sized (C := Try.checked) own started (by kernel_rfl) Try.func4
    (ChangeSpec.witness6 (enc := enc) (C := Try.checked) false ⟨#[], #[.slice none 0 0], []⟩ 8 (by kernel_rfl) (by kernel_rfl) (by kernel_rfl) (by kernel_rfl)) ?_
  intro W base args ds gs before hval0 hW hcnd hsz0 _
  have hsz : (DataW.weightsEach Try.prog (Try.f4.params.toList ++ Rows.wireStrictSpec.plain.varTypes Try.prog) (ds ++ gs)).all (· ≤ reachBytes) = true := hsz0
  have hval : ∀ (j : Nat) t v, Try.f4.params[j]? = some t → args[j]? = some v → Value.okWide Try.prog W .any base t v := hval0
  have hW' := hW
  obtain ⟨p, q, hA0, hV, rfl, hfz, hnd⟩ := hW
  have hA : DataW.TrodAll enc Try.prog W 0 (fun _ => true) true Try.f4.params.toList args.toList ds p := hA0
  rw [Try.params4] at hA hval hsz
  obtain ⟨v0, vs0, d0, ds0, p0, q0, hargs, rfl, rfl, h0, r0⟩ := trodAll_cons hA
  obtain ⟨rfl, rfl, rfl⟩ := trodAll_nil r0
  obtain rfl : args = #[v0] := by cases args; simp_all
  obtain ⟨rfl, rfl⟩ := trodVars_none hV
  have hlt : ∀ x ∈ p0 ++ [] ++ [], x.block < W.heap.size := fun x hx => by simpa using hW'.lt x hx
  have hv0 := okWide_slice Try.underlying26 (hval 0 26 v0 rfl rfl)
  obtain ⟨x0, hK0, hb0⟩ := Go.Proofs.Ytoaopjbgaehpfaa.G.OpensK.arg Go.Proofs.Ytoaopjbgaehpfaa.G.oBytes h0
  have hc0 := hb0 (Go.Proofs.Ytoaopjbgaehpfaa.G.weights_eachK hsz 0 26 d0 rfl rfl)
  clear hA0 hval0 hsz0 hsz hb0
  refine (Go.Proofs.Ytoaopjbgaehpfaa.G.wireStrictR W x0 v0 hv0 hK0 hc0).mono fun e W' ⟨he, bel⟩ => ?_
  subst he
  have g0 := Below.trod laid (by kernel_rfl) (of_decide_eq_true (by kernel_rfl)) h0 bel (fun x hx => hlt x (by simp [hx]))
  exact ⟨_, rfl, _, _, _, [], _, [], hW', trodAll_mk1 (shut_bool Try.underlying4 _), (trodAll_cons_mk g0 trodAll_mk0), rfl, bel.frame _, fun h => by cases h⟩
theorem over : Rows.wireStrictRow.holds Try.pinned (OpenSpec.ofChange Rows.wireStrictSpec) :=
  OpenClaim.holds_of_wide 4 Try.f4 rfl rfl rfl rfl rfl rfl rfl ⟨rfl, rfl, rfl, rfl, rfl⟩ rfl rfl rfl rfl rfl (by kernel_rfl) Try.func4 (by kernel_rfl)
    (of_decide_eq_true (by kernel_rfl)) (by unfold Func.isWrapper; first | (rw [if_pos (by decide +kernel)]; kernel_rfl) | (rw [if_neg (by decide +kernel)]; exact ⟨rfl, rfl⟩))
    (fun os started H enc _ => lifted os started H enc)
theorem proved : Rows.WireStrictSaid := over
#print axioms proved
end Go.Proofs.Ytoaopjbgaehpfaa.wireStrict
namespace Go.Proofs.Ytoaopjbgaehpfaa
/-- The row, under a short name, for the claim. -/
theorem wireStrict_holds : Rows.WireStrictSaid := wireStrict.proved
end Go.Proofs.Ytoaopjbgaehpfaa
