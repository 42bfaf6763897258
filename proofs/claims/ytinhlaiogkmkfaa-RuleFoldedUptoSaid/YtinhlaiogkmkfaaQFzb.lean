/- RuleFolded: the law's function answers true. -/
import Derived.Test.YtinhlaiogkmkfaaQFx
import Derived.Test.YtinhlaiogkmkfaaQFo
namespace Go.Proofs.Ytinhlaiogkmkfaa.PA
open Go.RowKit Go.Proofs.YtinhlaiogkmkfaaW.PrintWords Go.Proofs.YtinhlaiogkmkfaaW.PrintLast Go.Proofs.YtinhlaiogkmkfaaW.PrintMore
set_option linter.unusedVariables false
theorem same_loop (p : List S45) (hl : p.length ≤ 140737488351232) : ∀ (d k i : Nat), p.length - i = d → i ≤ p.length → d < k → shuttlelaw0_SameSteps.l0 k p p i = some true := by
  intro d
  induction d with
  | zero =>
    intro k i hd hi hk
    obtain ⟨k, rfl⟩ : ∃ m, k = m + 1 := ⟨k - 1, by omega⟩
    unfold shuttlelaw0_SameSteps.l0
    rw [if_neg (by omega)]
  | succ d ih =>
    intro k i hd hi hk
    obtain ⟨k, rfl⟩ : ∃ m, k = m + 1 := ⟨k - 1, by omega⟩
    have hi' : i < p.length := by omega
    unfold shuttlelaw0_SameSteps.l0
    rw [if_pos (by omega), if_pos (by omega), if_pos (by omega), if_neg (by simp), wrap_up hi' hl]
    exact ih k (i + 1) (by omega) (by omega) (by omega)
theorem same_eq {p : List S45} {k : Nat} (hl : p.length ≤ 140737488351232) (hk : p.length < k) : shuttlelaw0_SameSteps.f k p p = some true := by
  unfold shuttlelaw0_SameSteps.f
  rw [if_pos rfl]
  exact same_loop p hl p.length k 0 (by omega) (by omega) hk
theorem ruleFolded_eq {l0 : List S45} {l1 l2 : List S56} (h0 : StepsFit l0) (hv : VarsFit l1) (hm : VarsFit (l1 ++ l2)) : ∃ k, shuttlelaw12_RuleFolded.f k l0 l1 l2 = some true := by
  obtain ⟨k, hk⟩ : ∃ k : Nat, k = l1.length + l0.length + 200 := ⟨_, rfl⟩
  refine ⟨k, ?_⟩
  have aw : (shuttlelaw12_awake.f k).bind (fun t => some t) = some true := by rw [awake_true k (by omega)]; rfl
  unfold shuttlelaw12_RuleFolded.f
  rw [copySteps_eq h0.len, Option.bind_some, copyVars_eq hv.len, Option.bind_some]
  by_cases hc : okC l0 = true
  · obtain ⟨f1, ⟨q, v, hpt, hqt, hvo⟩, hlen, hfit⟩ := fold_eq l2 hv hm (k := k) (by omega) h0 hc
    obtain ⟨q', r1, r2⟩ := hpt.run
    obtain ⟨v', r3, r4, _⟩ := hpt.val
    have h1024 : l0.length ≤ 1024 := by have := G.check_len hc; simpa [expr_Check.prs] using this
    have hcp : okC (leftOf l1 l0) = true := by
      unfold okC G.checkB
      rw [r1, decide_eq_true (by unfold expr_Check.prs; rw [List.length_map]; omega)]
      exact r2.trans hqt
    have hsay : sayB (leftOf l1 l0) (l1 ++ l2) = sayB l0 (l1 ++ l2) := by
      have e := sayV_eq hfit hm hcp
      unfold G.sayV at e
      rw [r3, Option.bind_some, show [v'] = [] ++ [v'] from rfl, G.pop1_snoc] at e
      have e' : v'.ok = sayB (leftOf l1 l0) (l1 ++ l2) := by injection e
      rw [← e', r4 hqt, hvo]
    obtain ⟨g1, _, _, _⟩ := fold_eq l2 hv hm (k := k) (by omega) hfit hcp
    have efix : leftOf l1 (leftOf l1 l0) = leftOf l1 l0 := by
      show (foldRp l1 (leftOf l1 l0) []).headD [] = _
      rw [hpt.nf.fix]
      rfl
    rw [efix] at g1
    have hml : l1.length + l2.length < 4398046511104 := by have := hm.len; rwa [List.length_append] at this
    rw [f1, Option.bind_some, if_pos rfl, Option.bind_some, if_pos hml, Option.bind_some, Option.bind_some, copyVars_eq hm.len, Option.bind_some, eval_eq h0 hm hc, Option.bind_some]
    dsimp only
    rw [copySteps_eq hfit.len, Option.bind_some, Option.bind_some, eval_eq hfit hm hcp, Option.bind_some, Option.bind_some, Option.bind_some, g1, Option.bind_some]
    dsimp only
    rw [if_pos rfl, if_pos rfl, hsay, if_pos (beq_self_eq_true _), if_pos rfl, same_eq (by have := h0.len; omega) (by omega), Option.bind_some, if_pos rfl, if_pos (by omega)]
    exact aw
  · have f1 : rule_Fold.f k l0 l1 = some ([], 120) := by
      unfold rule_Fold.f
      rw [check_eq h0, Option.bind_some, if_neg hc]
    rw [f1, Option.bind_some, if_neg (by decide), Option.bind_some, check_eq h0, Option.bind_some, if_neg hc]
    rw [if_pos (show ((([] : List S45), (120 : Int)).1.length : Int) = 0 from rfl)]
    exact aw
end Go.Proofs.Ytinhlaiogkmkfaa.PA
