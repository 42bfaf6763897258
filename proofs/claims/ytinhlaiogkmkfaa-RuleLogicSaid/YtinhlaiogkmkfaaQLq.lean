/- RuleLogic: the law's function answers true. -/
import Derived.Test.YtinhlaiogkmkfaaQPl
import Derived.Test.YtinhlaiogkmkfaaQPw
import Derived.Test.YtinhlaiogkmkfaaQLg
namespace Go.Proofs.Ytinhlaiogkmkfaa.PA
open Go.RowKit Go.Proofs.YtinhlaiogkmkfaaW.PrintWords Go.Proofs.YtinhlaiogkmkfaaW.PrintLast Go.Proofs.YtinhlaiogkmkfaaW.PrintMore
set_option linter.unusedVariables false
theorem sayV_eq {l : List S45} {vs : List S56} (h : StepsFit l) (hv : VarsFit vs) (hc : okC l = true) : G.sayV (rule_say.vrs vs) (expr_Check.prs l) = some (sayB l vs) := by
  have e := say_eq h hv hc
  unfold rule_say.f at e
  by_cases c : rule_say.fit l vs = true
  · rw [if_pos c] at e
    exact e
  · rw [if_neg c] at e
    cases e
theorem eval_of {l : List S45} {vs : List S56} {b : Bool} (h : StepsFit l) (hv : VarsFit vs) (hc : G.checkB (expr_Check.prs l) = true) (hs : G.sayV (rule_say.vrs vs) (expr_Check.prs l) = some b) : rule_Eval.f l vs = some (b, 0) := by
  rw [eval_eq h hv hc]
  have e := sayV_eq h hv hc
  rw [hs] at e
  injection e with e
  rw [e]
theorem eval_full {l : List S45} {vs : List S56} (h : StepsFit l) (hv : VarsFit vs) : rule_Eval.f l vs = some (if okC l = true then (sayB l vs, 0) else (false, 120)) := by
  by_cases c : okC l = true
  · rw [if_pos c, eval_eq h hv c]
  · rw [if_neg c]
    unfold rule_Eval.f
    rw [check_eq h, Option.bind_some, if_neg c]
theorem StepsFit.app {a b : List S45} (ha : StepsFit a) (hb : StepsFit b) (hl : a.length + b.length < 5864062014805) : StepsFit (a ++ b) :=
  ⟨by rw [List.length_append]; exact hl, fun x hx => (List.mem_append.1 hx).elim (ha.each x) (hb.each x)⟩
theorem StepsFit.one (k : Int) : StepsFit [(⟨k, (⟨#[]⟩ : ByteArray)⟩ : S45)] :=
  ⟨by simp, fun x hx => by rw [List.mem_singleton.1 hx]; exact Nat.zero_le _⟩
theorem VarsFit.nil : VarsFit [] := ⟨by simp, fun x hx => by cases hx⟩
theorem prs_app (a b : List S45) : expr_Check.prs (a ++ b) = expr_Check.prs a ++ expr_Check.prs b := by unfold expr_Check.prs; exact List.map_append
theorem cmp_eval (s p : ByteArray) (hs : s.size ≤ 140737488351232) (hp : p.size ≤ 140737488351232) (k : Int) (hk : k = 7 ∨ k = 8 ∨ k = 9 ∨ k = 10) :
    rule_Eval.f ([(⟨1, s⟩ : S45), (⟨1, p⟩ : S45)] ++ [(⟨k, (⟨#[]⟩ : ByteArray)⟩ : S45)]) [] = some (if (decide (s.size ≤ 1024) && decide (p.size ≤ 1024) && (decide (k ≤ 8) || (G.checkRes p).2 == 0)) = true then (if k = 7 then s.toList == p.toList else if k = 8 then !(s.toList == p.toList) else if k = 9 then (G.matchRes p s).1 else !(G.matchRes p s).1, 0) else (false, 120)) := by
  obtain ⟨h1, h2⟩ := G.cmp_on (rule_say.vrs []) s p k hk
  have hf : StepsFit ([(⟨1, s⟩ : S45), (⟨1, p⟩ : S45)] ++ [(⟨k, (⟨#[]⟩ : ByteArray)⟩ : S45)]) :=
    ⟨by simp, fun x hx => by
      simp at hx
      rcases hx with rfl | rfl | rfl
      · exact hs
      · exact hp
      · exact Nat.zero_le _⟩
  have e : expr_Check.prs ([(⟨1, s⟩ : S45), (⟨1, p⟩ : S45)] ++ [(⟨k, (⟨#[]⟩ : ByteArray)⟩ : S45)]) = [(1, s), (1, p), (k, G.mt)] := rfl
  by_cases c : (decide (s.size ≤ 1024) && decide (p.size ≤ 1024) && (decide (k ≤ 8) || (G.checkRes p).2 == 0)) = true
  · rw [if_pos c]
    exact eval_of hf VarsFit.nil (by rw [e, h1]; exact c) (by rw [e]; exact h2)
  · rw [if_neg c, eval_full hf VarsFit.nil, if_neg]
    unfold okC
    rw [e, h1]
    exact c
theorem logic_main {l0 l1 : List S45} {l2 : List S56} {s p : ByteArray} (h0 : StepsFit l0) (h1 : StepsFit l1) (hv : VarsFit l2) (hs : s.size ≤ 140737488351232) (hp : p.size ≤ 140737488351232)
    (c0 : okC l0 = true) (c1 : okC l1 = true) (hl : l0.length + l1.length ≤ 500) {k : Nat} (hk : 40 ≤ k) :
    shuttlelaw12_RuleLogic.j0 (k + 1) l0 l1 l2 s p (sayB l0 l2) (sayB l1 l2) false = some true := by
  have aw : (shuttlelaw12_awake.f k).bind (fun t => some t) = some true := by rw [awake_true k hk]; rfl
  have h01 : StepsFit (l0 ++ l1) := h0.app h1 (by omega)
  have hb : (l0 ++ l1).length ≤ 500 := by rw [List.length_append]; exact hl
  have s0 := sayV_eq h0 hv c0
  have s1 := sayV_eq h1 hv c1
  have e12 : rule_Eval.f (l0 ++ l1 ++ [(⟨12, (⟨#[]⟩ : ByteArray)⟩ : S45)]) l2 = some (sayB l0 l2 && sayB l1 l2, 0) := by
    obtain ⟨a, b⟩ := G.and_on (vs := rule_say.vrs l2) 12 (.inl rfl) (by unfold expr_Check.prs; rw [List.length_map, List.length_map]; exact hl) c0 c1 s0 s1
    have e : expr_Check.prs (l0 ++ l1 ++ [(⟨12, (⟨#[]⟩ : ByteArray)⟩ : S45)]) = expr_Check.prs l0 ++ expr_Check.prs l1 ++ [(12, G.mt)] := by rw [prs_app, prs_app]; rfl
    exact eval_of (h01.app (StepsFit.one 12) (by simp only [List.length_singleton]; omega)) hv (by rw [e]; exact a) (by rw [e]; exact b)
  have e13 : rule_Eval.f (l0 ++ l1 ++ [(⟨13, (⟨#[]⟩ : ByteArray)⟩ : S45)]) l2 = some (sayB l0 l2 || sayB l1 l2, 0) := by
    obtain ⟨a, b⟩ := G.and_on (vs := rule_say.vrs l2) 13 (.inr rfl) (by unfold expr_Check.prs; rw [List.length_map, List.length_map]; exact hl) c0 c1 s0 s1
    have e : expr_Check.prs (l0 ++ l1 ++ [(⟨13, (⟨#[]⟩ : ByteArray)⟩ : S45)]) = expr_Check.prs l0 ++ expr_Check.prs l1 ++ [(13, G.mt)] := by rw [prs_app, prs_app]; rfl
    exact eval_of (h01.app (StepsFit.one 13) (by simp only [List.length_singleton]; omega)) hv (by rw [e]; exact a) (by rw [e]; exact b)
  have e11 : rule_Eval.f (l0 ++ [(⟨11, (⟨#[]⟩ : ByteArray)⟩ : S45)]) l2 = some (!sayB l0 l2, 0) := by
    obtain ⟨a, b⟩ := G.not_on (vs := rule_say.vrs l2) (by unfold expr_Check.prs; rw [List.length_map]; omega) c0 s0
    have e : expr_Check.prs (l0 ++ [(⟨11, (⟨#[]⟩ : ByteArray)⟩ : S45)]) = expr_Check.prs l0 ++ [(11, G.mt)] := by rw [prs_app]; rfl
    exact eval_of (h0.app (StepsFit.one 11) (by simp only [List.length_singleton]; omega)) hv (by rw [e]; exact a) (by rw [e]; exact b)
  obtain ⟨q9, q10, j, e9, e10, hj⟩ : ∃ (q9 q10 : Bool) (j : Int), rule_Eval.f ([(⟨1, s⟩ : S45), (⟨1, p⟩ : S45)] ++ [(⟨9, (⟨#[]⟩ : ByteArray)⟩ : S45)]) [] = some (q9, j) ∧ rule_Eval.f ([(⟨1, s⟩ : S45), (⟨1, p⟩ : S45)] ++ [(⟨10, (⟨#[]⟩ : ByteArray)⟩ : S45)]) [] = some (q10, j) ∧ (j = 0 → (q9 == q10) = false) := by
    have e9 := cmp_eval s p hs hp 9 (by simp)
    have e10 := cmp_eval s p hs hp 10 (by simp)
    rw [show decide ((9 : Int) ≤ 8) = false from rfl] at e9
    rw [show decide ((10 : Int) ≤ 8) = false from rfl] at e10
    by_cases c : (decide (s.size ≤ 1024) && decide (p.size ≤ 1024) && (false || (G.checkRes p).2 == 0)) = true
    · rw [if_pos c] at e9 e10
      exact ⟨_, _, _, e9, e10, fun _ => by
        show ((G.matchRes p s).1 == !(G.matchRes p s).1) = false
        cases (G.matchRes p s).1 <;> rfl⟩
    · rw [if_neg c] at e9 e10
      exact ⟨_, _, _, e9, e10, fun h => by cases h⟩
  obtain ⟨q7, j7, e7, h7⟩ : ∃ (q : Bool) (j : Int), rule_Eval.f ([(⟨1, s⟩ : S45), (⟨1, p⟩ : S45)] ++ [(⟨7, (⟨#[]⟩ : ByteArray)⟩ : S45)]) [] = some (q, j) ∧ (s.size ≤ 1024 → p.size ≤ 1024 → q = (s.toList == p.toList)) := by
    have e := cmp_eval s p hs hp 7 (by simp)
    by_cases c : (decide (s.size ≤ 1024) && decide (p.size ≤ 1024) && (decide ((7 : Int) ≤ 8) || (G.checkRes p).2 == 0)) = true
    · rw [if_pos c] at e
      exact ⟨_, _, e, fun _ _ => rfl⟩
    · rw [if_neg c] at e
      exact ⟨_, _, e, fun a b => absurd (by rw [decide_eq_true a, decide_eq_true b]; rfl) c⟩
  obtain ⟨q8, j8, e8, h8⟩ : ∃ (q : Bool) (j : Int), rule_Eval.f ([(⟨1, s⟩ : S45), (⟨1, p⟩ : S45)] ++ [(⟨8, (⟨#[]⟩ : ByteArray)⟩ : S45)]) [] = some (q, j) ∧ (s.size ≤ 1024 → p.size ≤ 1024 → q = (s.toList != p.toList)) := by
    have e := cmp_eval s p hs hp 8 (by simp)
    by_cases c : (decide (s.size ≤ 1024) && decide (p.size ≤ 1024) && (decide ((8 : Int) ≤ 8) || (G.checkRes p).2 == 0)) = true
    · rw [if_pos c] at e
      exact ⟨_, _, e, fun _ _ => rfl⟩
    · rw [if_neg c] at e
      exact ⟨_, _, e, fun a b => absurd (by rw [decide_eq_true a, decide_eq_true b]; rfl) c⟩
  have two : ([(⟨1, s⟩ : S45), (⟨1, p⟩ : S45)] : List S45).length < 5864062014805 := by simp
  unfold shuttlelaw12_RuleLogic.j0
  dsimp only
  rw [if_neg (by decide), copySteps_eq h0.len, Option.bind_some, if_pos (by omega), Option.bind_some, copySteps_eq (by omega), Option.bind_some, if_pos (by omega), copyVars_eq hv.len, Option.bind_some, e12, Option.bind_some,
    Option.bind_some, if_pos (by omega), Option.bind_some, e13, Option.bind_some, Option.bind_some, if_pos (by omega), Option.bind_some, e11, Option.bind_some, Option.bind_some, copySteps_eq two, Option.bind_some, if_pos two, e7, Option.bind_some,
    Option.bind_some, if_pos two, e8, Option.bind_some, Option.bind_some, if_pos two, e9, Option.bind_some, Option.bind_some, if_pos two, e10, Option.bind_some]
  have hZ : (if (s.size : Int) > 1024 then ((shuttlelaw12_awake.f k).bind fun t348 => (some t348)) else (if (p.size : Int) > 1024 then ((shuttlelaw12_awake.f k).bind fun t349 => (some t349)) else (if (q7 == (s.toList == p.toList)) = true then (if (q8 == (s.toList != p.toList)) = true then ((shuttlelaw12_awake.f k).bind fun t350 => (some t350)) else (some false)) else (some false)))) = some true := by
    by_cases a : (s.size : Int) > 1024
    · rw [if_pos a]; exact aw
    · rw [if_neg a]
      by_cases b : (p.size : Int) > 1024
      · rw [if_pos b]; exact aw
      · rw [if_neg b, h7 (by omega) (by omega), h8 (by omega) (by omega), if_pos (beq_self_eq_true _), if_pos (beq_self_eq_true _)]
        exact aw
  have hT : (if j = j then (if j = 0 then (if (q9 == q10) = true then some false else (if (s.size : Int) > 1024 then ((shuttlelaw12_awake.f k).bind fun t348 => (some t348)) else (if (p.size : Int) > 1024 then ((shuttlelaw12_awake.f k).bind fun t349 => (some t349)) else (if (q7 == (s.toList == p.toList)) = true then (if (q8 == (s.toList != p.toList)) = true then ((shuttlelaw12_awake.f k).bind fun t350 => (some t350)) else (some false)) else (some false))))) else (if (s.size : Int) > 1024 then ((shuttlelaw12_awake.f k).bind fun t348 => (some t348)) else (if (p.size : Int) > 1024 then ((shuttlelaw12_awake.f k).bind fun t349 => (some t349)) else (if (q7 == (s.toList == p.toList)) = true then (if (q8 == (s.toList != p.toList)) = true then ((shuttlelaw12_awake.f k).bind fun t350 => (some t350)) else (some false)) else (some false))))) else some false) = some true := by
    rw [if_pos rfl]
    by_cases a : j = 0
    · rw [if_pos a, hj a, if_neg (by decide)]; exact hZ
    · rw [if_neg a]; exact hZ
  generalize sayB l0 l2 = x
  generalize sayB l1 l2 = y
  rw [if_pos rfl, if_pos rfl, if_pos rfl]
  cases x
  · cases y
    · rw [if_neg (by decide), if_neg (by decide), if_neg (by decide), if_neg (by decide)]; exact hT
    · rw [if_neg (by decide), if_neg (by decide), if_neg (by decide), if_neg (by decide)]; exact hT
  · cases y
    · rw [if_pos rfl, if_neg (by decide), if_neg (by decide), if_neg (by decide)]; exact hT
    · rw [if_pos rfl, if_neg (by decide), if_neg (by decide), if_neg (by decide)]; exact hT
theorem ruleLogic_eq {l0 l1 : List S45} {l2 : List S56} {s p : ByteArray} (h0 : StepsFit l0) (h1 : StepsFit l1) (hv : VarsFit l2) (hs : s.size ≤ 140737488351232) (hp : p.size ≤ 140737488351232) :
    ∃ k, shuttlelaw12_RuleLogic.f k l0 l1 l2 s p = some true := by
  obtain ⟨k, hk⟩ : ∃ k : Nat, 40 ≤ k := ⟨40, Nat.le_refl _⟩
  refine ⟨k + 1, ?_⟩
  have aw : ∀ x y, shuttlelaw12_RuleLogic.j0 (k + 1) l0 l1 l2 s p x y true = some true := by
    intro x y
    unfold shuttlelaw12_RuleLogic.j0
    dsimp only
    rw [if_pos rfl, awake_true k hk]
    rfl
  unfold shuttlelaw12_RuleLogic.f
  rw [copySteps_eq h0.len, Option.bind_some, copyVars_eq hv.len, Option.bind_some, eval_full h0 hv, Option.bind_some, copySteps_eq h1.len, Option.bind_some, Option.bind_some, eval_full h1 hv, Option.bind_some]
  by_cases c0 : okC l0 = true
  · rw [if_pos c0, if_pos rfl]
    by_cases c1 : okC l1 = true
    · rw [if_pos c1, if_pos rfl]
      have e : wrap64 ((l0.length : Int) + (l1.length : Int)) = (l0.length : Int) + (l1.length : Int) := by have := h0.len; have := h1.len; unfold wrap64; omega
      rw [e]
      by_cases c2 : (l0.length : Int) + (l1.length : Int) > 500
      · rw [decide_eq_true c2]; exact aw _ _
      · rw [decide_eq_false c2]
        exact logic_main h0 h1 hv hs hp c0 c1 (by omega) hk
    · rw [if_neg c1, if_neg (by decide)]; exact aw _ _
  · rw [if_neg c0, if_neg (by decide)]; exact aw _ _
end Go.Proofs.Ytinhlaiogkmkfaa.PA
