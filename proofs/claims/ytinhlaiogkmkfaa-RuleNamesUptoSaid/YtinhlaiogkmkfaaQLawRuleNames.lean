/- RuleNames: the row. Where what is read is of bulk at most 1048576: what an expression says hangs on the variables that it names, and on no others. -/
import Derived.Test.YtinhlaiogkmkfaaRows
import Derived.Test.YtinhlaiogkmkfaaQOr
import Derived.Test.YtinhlaiogkmkfaaQKf
import Derived.WalkKit
import Derived.ProofKit
import Derived.OpenShut
import Derived.ShutString
import Derived.ChangeOld
import Derived.Below
import Derived.Carry
import Derived.SizedLaws
import Derived.JoinedCond
namespace Go.Proofs.Ytinhlaiogkmkfaa.ruleNames
open Go.ChangeShapes Go.WideShapes Go.ChangeAt Go.RowKit
open Go.ChangeMaps (open_string shut_string)
set_option linter.unusedVariables false
set_option linter.unusedSimpArgs false
theorem own : ownKnob Try.prog.godebug = none := by kernel_rfl
theorem laid : laidOutB Try.prog = true := by kernel_rfl
set_option maxRecDepth 100000 in
theorem lifted (os : Os) (started : os.Started) (H : Type) (enc : TypeId × Value → H) (F0 : Stop.Interp) :
    ReturnsInHanded {} Try.checked os 10 .any ((Rows.OpenSpec.upto Rows.ruleNamesSpec).pre6 enc Try.prog Try.f10 Rows.ruleNamesUptoRow.domain false) (((Rows.OpenSpec.upto Rows.ruleNamesSpec).at F0).post enc Try.prog Try.f10 false true false false) := by
  refine returnsInHanded_of_cond (C := Try.checked) (s := Rows.OpenSpec.upto Rows.ruleNamesSpec) (k := Rows.uptoSmall) rfl own started (by kernel_rfl) Try.func10
    (OpenSpec.witness (enc := enc) (C := Try.checked) (s := Rows.OpenSpec.upto Rows.ruleNamesSpec) (k := Rows.uptoSmall) rfl false ⟨#[], #[.slice none 0 0, .slice none 0 0, .slice none 0 0], []⟩ 8 (by kernel_rfl) (by kernel_rfl) (by kernel_rfl)
      (x := ([.nil, .nil, .nil], [], [])) (by kernel_rfl) (by kernel_rfl) (by kernel_rfl)) ?_
  intro W base args ds gs before hval0 hW _ hk _
  have hval : ∀ (j : Nat) t v, Try.f10.params[j]? = some t → args[j]? = some v → Value.okWide Try.prog W .any base t v := hval0
  have hW' := hW
  obtain ⟨p, q, hA0, hV, rfl, hfz, hnd⟩ := hW
  have hA : DataW.TrodAll enc Try.prog W 0 (fun _ => true) true Try.f10.params.toList args.toList ds p := hA0
  rw [Try.params10] at hA hval
  obtain ⟨v0, vs0, d0, ds0, p0, q0, hargs, rfl, rfl, h0, r0⟩ := trodAll_cons hA
  obtain ⟨v1, vs1, d1, ds1, p1, q1, rfl, rfl, rfl, h1, r1⟩ := trodAll_cons r0
  obtain ⟨v2, vs2, d2, ds2, p2, q2, rfl, rfl, rfl, h2, r2⟩ := trodAll_cons r1
  obtain ⟨rfl, rfl, rfl⟩ := trodAll_nil r2
  obtain rfl : args = #[v0, v1, v2] := by cases args; simp_all
  obtain ⟨rfl, rfl⟩ := trodVars_none hV
  have hlt : ∀ x ∈ p0 ++ (p1 ++ (p2 ++ [])) ++ [], x.block < W.heap.size := fun x hx => by simpa using hW'.lt x hx
  obtain ⟨A0, n0, c0, rfl⟩ := okWide_slice Try.underlying22 (hval 0 22 v0 rfl rfl)
  obtain ⟨A1, n1, c1, rfl⟩ := okWide_slice Try.underlying23 (hval 1 23 v1 rfl rfl)
  obtain ⟨A2, n2, c2, rfl⟩ := okWide_slice Try.underlying23 (hval 2 23 v2 rfl rfl)
  obtain ⟨l0, ⟨B0, e0, hs0, hc0, hC0⟩, hb0⟩ := Go.Proofs.Ytinhlaiogkmkfaa.G.OpensU.arg PA.o22U h0
  obtain ⟨l1, ⟨B1, e1, hs1, hc1, hC1⟩, hb1⟩ := Go.Proofs.Ytinhlaiogkmkfaa.G.OpensU.arg PA.o23U h1
  obtain ⟨l2, ⟨B2, e2, hs2, hc2, hC2⟩, hb2⟩ := Go.Proofs.Ytinhlaiogkmkfaa.G.OpensU.arg PA.o23U h2
  simp [Value.cells] at hs0 hs1 hs2
  obtain ⟨rfl, rfl, rfl⟩ := hs0
  obtain ⟨rfl, rfl, rfl⟩ := hs1
  obtain ⟨rfl, rfl, rfl⟩ := hs2
  have hbulk : Rows.uptoBulkAll ([d0, d1, d2] ++ []) ≤ 1048576 := of_decide_eq_true hk
  simp only [List.append_nil, Rows.uptoBulkAll, Rows.uptoBulk, Array.length_toList] at hbulk
  obtain ⟨k, hk'⟩ := PA.ruleNames_eq (l0 := l0) (l1 := l1) (l2 := l2) ⟨Nat.lt_of_le_of_lt (hb0 (by omega)).1 (by decide), fun x hx => Nat.le_trans ((hb0 (by omega)).2 x hx) (by decide)⟩ ⟨Nat.lt_of_le_of_lt (hb1 (by omega)).1 (by decide), fun x hx => ⟨Nat.le_trans ((hb1 (by omega)).2 x hx).1 (by decide), Nat.le_trans ((hb1 (by omega)).2 x hx).2 (by decide)⟩⟩ ⟨Nat.lt_of_le_of_lt (hb2 (by omega)).1 (by decide), fun x hx => ⟨Nat.le_trans ((hb2 (by omega)).2 x hx).1 (by decide), Nat.le_trans ((hb2 (by omega)).2 x hx).2 (by decide)⟩⟩ (Nat.le_trans (hb2 (by omega)).1 (by decide))
  clear hA0 hval0 hbulk
  refine (PA.shuttlelaw12_RuleNames.callsT k A0 c0 l0 A1 c1 l1 A2 c2 l2 true ⟨rfl⟩ W hC0 hc0 hC1 hc1 hC2 hc2 hk').mono fun e W' ⟨he, bel⟩ => ?_
  subst he
  have g0 := Below.trod laid (by kernel_rfl) (of_decide_eq_true (by kernel_rfl)) h0 bel (fun x hx => hlt x (by simp [hx]))
  have g1 := Below.trod laid (by kernel_rfl) (of_decide_eq_true (by kernel_rfl)) h1 bel (fun x hx => hlt x (by simp [hx]))
  have g2 := Below.trod laid (by kernel_rfl) (of_decide_eq_true (by kernel_rfl)) h2 bel (fun x hx => hlt x (by simp [hx]))
  exact ⟨_, rfl, _, _, _, [], _, [], hW', trodAll_mk1 (shut_bool Try.underlying4 _), (trodAll_cons_mk g0 (trodAll_cons_mk g1 (trodAll_cons_mk g2 trodAll_mk0))), rfl, bel.frame _, fun h => by cases h⟩
theorem over : Rows.ruleNamesUptoRow.holds Try.pinned (Rows.OpenSpec.upto Rows.ruleNamesSpec) :=
  OpenClaim.holds_of_cond 10 Try.f10 rfl rfl rfl rfl rfl rfl rfl ⟨rfl, rfl, rfl, rfl, rfl⟩ rfl rfl rfl rfl rfl (by kernel_rfl) Try.func10 (by kernel_rfl)
    (of_decide_eq_true (by kernel_rfl)) (by unfold Func.isWrapper; first | (rw [if_pos (by decide +kernel)]; kernel_rfl) | (rw [if_neg (by decide +kernel)]; exact ⟨rfl, rfl⟩))
    (fun os started H enc _ F0 => lifted os started H enc F0)
theorem proved : Rows.RuleNamesUptoSaid := over
#print axioms proved
end Go.Proofs.Ytinhlaiogkmkfaa.ruleNames
namespace Go.Proofs.Ytinhlaiogkmkfaa
/-- The row, under a short name, for the claim. -/
theorem ruleNames_holds : Rows.RuleNamesUptoSaid := ruleNames.proved
end Go.Proofs.Ytinhlaiogkmkfaa
