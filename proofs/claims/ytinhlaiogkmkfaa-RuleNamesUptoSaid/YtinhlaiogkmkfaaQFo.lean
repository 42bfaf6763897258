/- Texts of this claim, joined: words and laws that the others use. -/
import Derived.Test.YtinhlaiogkmkfaaQPAx0
import Derived.Test.YtinhlaiogkmkfaaQPAx1
import Derived.Test.YtinhlaiogkmkfaaQPAx3
import Derived.Test.YtinhlaiogkmkfaaQPAx7
import Derived.Test.YtinhlaiogkmkfaaQPAx8
import Derived.Test.YtinhlaiogkmkfaaQFx
import Derived.Test.YtinhlaiogkmkfaaQKb
section
/- RuleFolded's walk: printed by a program of this session over the kit's print, cut down by truths.py. Not trusted: Lean checks it. -/
namespace Go.Proofs.Ytinhlaiogkmkfaa.PA
open Go.RowKit Go.Proofs.YtinhlaiogkmkfaaW.PrintWords Go.Proofs.YtinhlaiogkmkfaaW.PrintLast Go.Proofs.YtinhlaiogkmkfaaW.PrintMore
attribute [local go_sem] max2_int min2_int max_two min_two max_three min_three max_four min_four
set_option linter.unusedVariables false
set_option linter.unusedSimpArgs false
attribute [local go_sem high] eqA45
/-! ### shuttlelaw12_RuleFolded: function 6 -/
def shuttlelaw12_RuleFolded.f (k : Nat) (l0 : List (S45)) (l1 : List (S56)) (l2 : List (S56)) : Option (Bool) := (shuttlelaw0_CopySteps.f l0).bind fun t257 => ((shuttlelaw0_CopyVars.f l1).bind fun t260 => ((rule_Fold.f k t257 t260).bind fun bt263 => (if bt263.2 = 0 then ((shuttlelaw0_CopyVars.f l1).bind fun t272 => (if t272.length + l2.length < 4398046511104 then ((some (t272 ++ l2 : List (S56))).bind fun y275 => ((shuttlelaw0_CopySteps.f l0).bind fun t278 => ((shuttlelaw0_CopyVars.f y275).bind fun t281 => ((rule_Eval.f t278 t281).bind fun bt284 => ((shuttlelaw0_CopySteps.f bt263.1).bind fun t286 => ((shuttlelaw0_CopyVars.f y275).bind fun t289 => ((rule_Eval.f t286 t289).bind fun bt292 => ((shuttlelaw0_CopySteps.f bt263.1).bind fun t294 => ((shuttlelaw0_CopyVars.f l1).bind fun t297 => ((rule_Fold.f k t294 t297).bind fun bt300 => (if bt284.2 = 0 then (if bt292.2 = 0 then (if (bt284.1 == bt292.1) = true then (if bt300.2 = 0 then ((shuttlelaw0_SameSteps.f k bt300.1 bt263.1).bind fun t304 => (if t304 = true then (if (bt263.1.length : Int) ≤ (l0.length : Int) then ((shuttlelaw12_awake.f k).bind fun t305 => (some t305)) else (some false)) else (some false))) else (some false)) else (some false)) else (some false)) else (some false)))))))))))) else (none))) else ((shuttlelaw0_CopySteps.f l0).bind fun t267 => ((expr_Check.f t267).bind fun t270 => (if t270 = true then (some false) else (if (bt263.1.length : Int) = 0 then ((shuttlelaw12_awake.f k).bind fun t271 => (some t271)) else (some false))))))))
end Go.Proofs.Ytinhlaiogkmkfaa.PA
end
section
/- RuleFolded: the law's function answers true. -/
namespace Go.Proofs.Ytinhlaiogkmkfaa.PA
open Go.RowKit Go.Proofs.YtinhlaiogkmkfaaW.PrintWords Go.Proofs.YtinhlaiogkmkfaaW.PrintLast Go.Proofs.YtinhlaiogkmkfaaW.PrintMore
set_option linter.unusedVariables false
theorem same_loop (p : List S45) (hl : p.length ≤ 140737488351232) : ∀ (d k i : Nat), p.length - i = d → i ≤ p.length → d < k → shuttlelaw0_SameSteps.l0 k p p i = some true := by
  intro d
  induction d with
  | zero =>
    intro k i hd hi hk
    obtain ⟨k, rfl⟩ : ∃ m, k = m + 1 := ⟨k - 1, by omega⟩
    unfold shuttlelaw0_SameSteps.l0
    rw [if_neg (by omega)]
  | succ d ih =>
    intro k i hd hi hk
    obtain ⟨k, rfl⟩ : ∃ m, k = m + 1 := ⟨k - 1, by omega⟩
    have hi' : i < p.length := by omega
    unfold shuttlelaw0_SameSteps.l0
    rw [if_pos (by omega), if_pos (by omega), if_pos (by omega), if_neg (by simp), wrap_up hi' hl]
    exact ih k (i + 1) (by omega) (by omega) (by omega)
theorem same_eq {p : List S45} {k : Nat} (hl : p.length ≤ 140737488351232) (hk : p.length < k) : shuttlelaw0_SameSteps.f k p p = some true := by
  unfold shuttlelaw0_SameSteps.f
  rw [if_pos rfl]
  exact same_loop p hl p.length k 0 (by omega) (by omega) hk
end Go.Proofs.Ytinhlaiogkmkfaa.PA
end
section
/- RuleKnown: the law's function answers true. -/
namespace Go.Proofs.Ytinhlaiogkmkfaa.PA
open Go.RowKit Go.Proofs.YtinhlaiogkmkfaaW.PrintWords Go.Proofs.YtinhlaiogkmkfaaW.PrintLast Go.Proofs.YtinhlaiogkmkfaaW.PrintMore
set_option linter.unusedVariables false
theorem known_end {l0 : List S45} {l1 : List S56} (h0 : StepsFit l0) (hv : VarsFit l1) {n : List ByteArray} (hn : n = G.namesB (expr_Names.prs l0)) (hall : ∀ x ∈ n, G.getB (rule_say.vrs l1) x = true ∧ (G.getT (rule_say.vrs l1) x).size ≤ 1024) {k : Nat} (hk : l1.length + 200 ≤ k) (i : Nat) (hi : n.length ≤ i) :
    shuttlelaw12_RuleKnown.l0 (k + 1) l0 l1 n i = some true := by
  unfold shuttlelaw12_RuleKnown.l0
  have aw : (shuttlelaw12_awake.f k).bind (fun t => some t) = some true := by rw [awake_true k (by omega)]; rfl
  rw [if_neg (by omega), copySteps_eq h0.len, Option.bind_some, copyVars_eq hv.len, Option.bind_some]
  by_cases hc : okC l0 = true
  · have hkn : ∀ x ∈ l0, KnownS l1 x := fun x hx hb => hall x.f1 (by rw [hn]; exact (mem_names hc).2 ⟨x, hx, hb, rfl⟩)
    rw [eval_eq h0 hv hc, Option.bind_some, Option.bind_some, Option.bind_some, known_fold hv (by omega) h0 hc hkn, Option.bind_some]
    dsimp only
    rw [if_pos rfl]
    cases hs : sayB l0 l1
    · rw [if_neg (by decide), if_pos rfl]
      show (shuttlelaw0_SameSteps.f k (truthP false) (truthP false)).bind _ = _
      rw [same_eq (by show 1 ≤ _; omega) (by show 1 < k; omega), Option.bind_some, if_pos rfl]
      exact aw
    · rw [if_pos rfl, if_pos rfl]
      show (shuttlelaw0_SameSteps.f k (truthP true) (truthP true)).bind _ = _
      rw [same_eq (by show 1 ≤ _; omega) (by show 1 < k; omega), Option.bind_some, if_pos rfl]
      exact aw
  · have e1 : rule_Eval.f l0 l1 = some (false, 120) := by
      unfold rule_Eval.f
      rw [check_eq h0, Option.bind_some, if_neg hc]
    have f1 : rule_Fold.f k l0 l1 = some ([], 120) := by
      unfold rule_Fold.f
      rw [check_eq h0, Option.bind_some, if_neg hc]
    rw [e1, Option.bind_some, Option.bind_some, Option.bind_some, f1, Option.bind_some]
    dsimp only
    rw [if_neg (by decide), if_pos rfl]
    exact aw
theorem known_loop {l0 : List S45} {l1 : List S56} (h0 : StepsFit l0) (hv : VarsFit l1) {n : List ByteArray} (hn : n = G.namesB (expr_Names.prs l0)) (hnl : n.length ≤ 5864062014805) : ∀ (d k i : Nat), n.length - i = d → i ≤ n.length → l1.length + 201 + d ≤ k →
    (∀ j (hj : j < n.length), j < i → G.getB (rule_say.vrs l1) n[j] = true ∧ (G.getT (rule_say.vrs l1) n[j]).size ≤ 1024) → shuttlelaw12_RuleKnown.l0 k l0 l1 n i = some true := by
  intro d
  induction d with
  | zero =>
    intro k i hd hi hk hall
    obtain ⟨k, rfl⟩ : ∃ m, k = m + 1 := ⟨k - 1, by omega⟩
    refine known_end h0 hv hn (fun x hx => ?_) (by omega) i (by omega)
    obtain ⟨j, hj, rfl⟩ := List.getElem_of_mem hx
    exact hall j hj (by omega)
  | succ d ih =>
    intro k i hd hi hk hall
    obtain ⟨k, rfl⟩ : ∃ m, k = m + 1 := ⟨k - 1, by omega⟩
    have hi' : i < n.length := by omega
    have aw : (shuttlelaw12_awake.f k).bind (fun t => some t) = some true := by rw [awake_true k (by omega)]; rfl
    have er : rdOf ByteArray.empty n (i : Int) = n[i] := by unfold rdOf; simp [hi']
    unfold shuttlelaw12_RuleKnown.l0
    rw [if_pos (by omega), if_pos (by omega), er, refGet_eq _ hv.len (by omega), Option.bind_some]
    dsimp only
    by_cases cb : G.getB (rule_say.vrs l1) n[i] = true
    · rw [if_pos cb]
      by_cases cs : ((G.getT (rule_say.vrs l1) n[i]).size : Int) > 1024
      · rw [if_pos cs]
        exact aw
      · rw [if_neg cs, wrap_up hi' (by omega)]
        refine ih k (i + 1) (by omega) (by omega) (by omega) (fun j hj hji => ?_)
        by_cases hjj : j < i
        · exact hall j hj hjj
        · obtain rfl : j = i := by omega
          exact ⟨cb, by omega⟩
    · rw [if_neg cb]
      exact aw
theorem ruleKnown_eq {l0 : List S45} {l1 : List S56} (h0 : StepsFit l0) (hv : VarsFit l1) : ∃ k, shuttlelaw12_RuleKnown.f k l0 l1 = some true := by
  have hl := names_len l0
  have := h0.len
  refine ⟨l1.length + l0.length + 300, ?_⟩
  unfold shuttlelaw12_RuleKnown.f
  rw [copySteps_eq h0.len, Option.bind_some, names_eq h0, Option.bind_some]
  exact known_loop h0 hv rfl (by omega) _ _ 0 rfl (Nat.zero_le _) (by omega) (fun j hj h => absurd h (Nat.not_lt_zero j))
end Go.Proofs.Ytinhlaiogkmkfaa.PA
end
