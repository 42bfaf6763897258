/- Texts of this claim, joined: words and laws that the others use. -/
import Derived.Test.YtinhlaiogkmkfaaQPAx0
import Derived.Test.YtinhlaiogkmkfaaQPAx3
section
-- Printed by a program of this session over the kit's print, with contracts of this session's own. Not trusted: Lean checks it.
namespace Go.Proofs.Ytinhlaiogkmkfaa.PA
open Go.RowKit Go.Proofs.YtinhlaiogkmkfaaW.PrintWords Go.Proofs.YtinhlaiogkmkfaaW.PrintLast Go.Proofs.YtinhlaiogkmkfaaW.PrintMore
attribute [local go_sem] max2_int min2_int max_two min_two max_three min_three max_four min_four   -- for this text's walks alone
set_option linter.unusedVariables false
set_option linter.unusedSimpArgs false

theorem eqA45 (d : Nat) (w : World) (x0 y0 : Int) (x1 y1 : ByteArray) :
    (Op.equalIn (d + 2) 45 (.agg #[.int .i64 x0, .string x1]) (.agg #[.int .i64 y0, .string y1])).run Try.prog w = .ok (x0 == y0 && (x1.toList == y1.toList)) w := by
  refine eqA_of Try.underlying45 (by kernel_rfl) ?_
  refine eqf_cons (by rfl) (by go_simp; rfl) (by go_simp; rfl) (by go_simp) ?_
  exact eqf_last (by rfl) (by go_simp; rfl) (by go_simp; rfl) (by go_simp)
end Go.Proofs.Ytinhlaiogkmkfaa.PA
end
section
-- Printed by a program of this session over the kit's print, with contracts of this session's own. Not trusted: Lean checks it.
namespace Go.Proofs.Ytinhlaiogkmkfaa.PA
open Go.RowKit Go.Proofs.YtinhlaiogkmkfaaW.PrintWords Go.Proofs.YtinhlaiogkmkfaaW.PrintLast Go.Proofs.YtinhlaiogkmkfaaW.PrintMore
attribute [local go_sem] max2_int min2_int max_two min_two max_three min_three max_four min_four   -- for this text's walks alone
set_option linter.unusedVariables false
set_option linter.unusedSimpArgs false

/-! ### rule_logic: function 41 -/
mutual
def rule_logic.j0 : Nat → Int → Int → Int → ByteArray → List (S45) → List (S45) → Option ((List (S45)))
  | 0, _, _, _, _, _, _ => none
  | k + 1, x7, x8, x153000, x153001, x154000, x155000 => (rule_part_is.f x154000 x7).bind fun t156 => (if t156 = true then (rule_logic.j1 k x7 x8 true x153000 x153001 x154000 x155000) else ((rule_part_is.f x155000 x7).bind fun t157 => (rule_logic.j1 k x7 x8 t157 x153000 x153001 x154000 x155000)))
def rule_logic.j1 : Nat → Int → Int → Bool → Int → ByteArray → List (S45) → List (S45) → Option ((List (S45)))
  | 0, _, _, _, _, _, _, _ => none
  | k + 1, x7, x8, x14, x153000, x153001, x154000, x155000 => if x14 = true then ((rule_leaf.f x7 (⟨#[]⟩ : ByteArray)).bind fun t158 => (some t158)) else ((rule_part_is.f x154000 x8).bind fun t161 => (if t161 = true then (some x155000) else ((rule_part_is.f x155000 x8).bind fun t162 => (if t162 = true then (some x154000) else ((rule_over.f k x153000 x153001 (([(⟨x154000⟩ : S66), (⟨x155000⟩ : S66)] : List (S66)))).bind fun t166 => (some t166))))))
end
def rule_logic.f (k : Nat) (a0_0 : Int) (a0_1 : ByteArray) (l1_0 : List (S45)) (l2_0 : List (S45)) : Option ((List (S45))) := if a0_0 = 13 then (rule_logic.j0 k 4 5 a0_0 a0_1 l1_0 l2_0) else (rule_logic.j0 k 5 4 a0_0 a0_1 l1_0 l2_0)
end Go.Proofs.Ytinhlaiogkmkfaa.PA
end
section
-- Printed by a program of this session over the kit's print, with contracts of this session's own. Not trusted: Lean checks it.
namespace Go.Proofs.Ytinhlaiogkmkfaa.PA
open Go.RowKit Go.Proofs.YtinhlaiogkmkfaaW.PrintWords Go.Proofs.YtinhlaiogkmkfaaW.PrintLast Go.Proofs.YtinhlaiogkmkfaaW.PrintMore
attribute [local go_sem] max2_int min2_int max_two min_two max_three min_three max_four min_four   -- for this text's walks alone
set_option linter.unusedVariables false
set_option linter.unusedSimpArgs false

attribute [local go_sem high] eqA45
/-! ### rule_texts: function 42 -/
mutual
def rule_texts.l0 : Nat → List (S66) → Bool → List (S66) → Int → Int → Int → ByteArray → Option ((List (S45)))
  | 0, _, _, _, _, _, _, _ => none
  | k + 1, x1, x5, x8, x9, x10, x170000, x170001 => if x10 < x9 then (if 0 ≤ x10 then (if x10 < (x8.length : Int) then (if x5 = true then ((rule_part_is.f ((rd_T66 x8 x10).f0) 1).bind fun t173 => (rule_texts.l0 k x1 t173 x8 x9 (wrap64 (x10 + 1)) x170000 x170001)) else (rule_texts.l0 k x1 false x8 x9 (wrap64 (x10 + 1)) x170000 x170001)) else (none)) else (none)) else (if x5 = true then ((rule_over.f k x170000 x170001 x1).bind fun t174 => ((rule_say.f t174 ([] : List (S56))).bind fun t177 => ((rule_truth.f t177).bind fun t178 => (some t178)))) else (if (x1.length : Int) = 2 then (if 0 < (x1.length : Int) then ((rule_part_is.f ((rd_T66 x1 0).f0) 2).bind fun t182 => (if t182 = true then (if 1 < (x1.length : Int) then ((rule_part_is.f ((rd_T66 x1 1).f0) 2).bind fun t184 => (if t184 = true then ((rule_part_root.f ((rd_T66 x1 0).f0)).bind fun bt186 => ((rule_part_root.f ((rd_T66 x1 1).f0)).bind fun bt189 => (rule_texts.j1 k x1 (bt186.1 == bt189.1 && (bt186.2.toList == bt189.2.toList)) x170000 x170001))) else (rule_texts.j1 k x1 false x170000 x170001))) else (none)) else (rule_texts.j1 k x1 false x170000 x170001))) else (none)) else (rule_texts.j1 k x1 false x170000 x170001)))
def rule_texts.j1 : Nat → List (S66) → Bool → Int → ByteArray → Option ((List (S45)))
  | 0, _, _, _, _ => none
  | k + 1, x1, x52, x170000, x170001 => if x52 = true then ((rule_truth.f (x170000 == 7)).bind fun t191 => (some t191)) else ((rule_over.f k x170000 x170001 x1).bind fun t194 => (some t194))
end
def rule_texts.f (k : Nat) (a0_0 : Int) (a0_1 : ByteArray) (l1 : List (S66)) : Option ((List (S45))) := rule_texts.l0 k l1 true l1 (l1.length : Int) 0 a0_0 a0_1
end Go.Proofs.Ytinhlaiogkmkfaa.PA
end
