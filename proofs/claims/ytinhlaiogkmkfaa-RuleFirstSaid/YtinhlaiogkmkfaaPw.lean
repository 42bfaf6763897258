/- When's rules: what the functions of the law compute. -/
import Derived.Test.YtinhlaiogkmkfaaPAx9
import Derived.Test.YtinhlaiogkmkfaaPs
namespace Go.Proofs.Ytinhlaiogkmkfaa.PA
open Go.RowKit Go.Proofs.YtinhlaiogkmkfaaW.PrintWords Go.Proofs.YtinhlaiogkmkfaaW.PrintLast Go.Proofs.YtinhlaiogkmkfaaW.PrintMore
set_option linter.unusedVariables false
/-- The sizes that a row's arguments have. -/
structure StepsFit (l : List S45) : Prop where
  len : l.length < 5864062014805
  each : ∀ x ∈ l, x.f1.size ≤ 140737488351232
structure VarsFit (l : List S56) : Prop where
  len : l.length < 4398046511104
  each : ∀ x ∈ l, x.f0.size ≤ 140737488351232 ∧ x.f1.size ≤ 140737488351232
structure RulesFit (l : List S48) : Prop where
  len : l.length ≤ 4398046511104
  each : ∀ x ∈ l, StepsFit x.f0
theorem wrap_up {i n : Nat} (h : i < n) (hn : n ≤ 140737488351232) : wrap64 ((i : Int) + 1) = ((i + 1 : Nat) : Int) := by
  unfold wrap64
  omega
theorem wrap_down {i : Nat} (hn : i + 1 ≤ 140737488351232) : wrap64 (((i + 1 : Nat) : Int) - 1) = (i : Int) := by
  unfold wrap64
  omega
theorem rd48 {l : List S48} {i : Nat} (h : i < l.length) : rd_T48 l (i : Int) = l[i] := by
  unfold rd_T48
  simp [h]
theorem rd45 {l : List S45} {i : Nat} (h : i < l.length) : rd_T45 l (i : Int) = l[i] := by
  unfold rd_T45
  simp [h]
theorem copySteps_eq {l : List S45} (h : l.length < 5864062014805) : shuttlelaw0_CopySteps.f l = some l := by
  unfold shuttlelaw0_CopySteps.f
  simp [h]
theorem copyVars_eq {l : List S56} (h : l.length < 4398046511104) : shuttlelaw0_CopyVars.f l = some l := by
  unfold shuttlelaw0_CopyVars.f
  simp [h]
theorem copyRules_loop {l : List S48} (h : RulesFit l) (d : Nat) : ∀ (k i : Nat), l.length - i = d → i ≤ l.length → d < k → shuttlelaw0_CopyRules.l0 k l (l.take i) i = some l := by
  have hl := h.len
  induction d with
  | zero =>
    intro k i hd hi hk
    obtain ⟨k, rfl⟩ : ∃ m, k = m + 1 := ⟨k - 1, by omega⟩
    obtain rfl : i = l.length := by omega
    unfold shuttlelaw0_CopyRules.l0
    rw [if_neg (by omega), List.take_length]
  | succ d ih =>
    intro k i hd hi hk
    obtain ⟨k, rfl⟩ : ∃ m, k = m + 1 := ⟨k - 1, by omega⟩
    have hi' : i < l.length := by omega
    unfold shuttlelaw0_CopyRules.l0
    rw [if_pos (by omega), if_pos (by omega), rd48 hi', copySteps_eq (h.each _ (List.getElem_mem _)).len, Option.bind_some, if_pos (by rw [List.length_take]; omega), wrap_up hi' (by omega)]
    have e : l.take i ++ [(⟨l[i].f0, l[i].f1⟩ : S48)] = l.take (i + 1) := by
      rw [List.take_add_one, List.getElem?_eq_getElem hi']
      rfl
    rw [e]
    exact ih k (i + 1) (by omega) (by omega) (by omega)
theorem copyRules_eq {l : List S48} (h : RulesFit l) {k : Nat} (hk : l.length < k) : shuttlelaw0_CopyRules.f k l = some l := by
  unfold shuttlelaw0_CopyRules.f
  exact copyRules_loop h l.length k 0 (by omega) (by omega) hk
theorem RulesFit.take {l : List S48} (h : RulesFit l) (n : Nat) : RulesFit (l.take n) :=
  ⟨by have := h.len; rw [List.length_take]; omega, fun x hx => h.each x (List.mem_of_mem_take hx)⟩
/-- A rule's expression is one. -/
def okC (l : List S45) : Bool := G.checkB (expr_Check.prs l)
theorem check_eq {l : List S45} (h : StepsFit l) : expr_Check.f l = some (okC l) := by
  unfold expr_Check.f
  rw [if_pos]
  · rfl
  · unfold expr_Check.fit
    rw [Bool.and_eq_true, decide_eq_true_eq, List.all_eq_true]
    exact ⟨by have := h.len; omega, fun x hx => decide_eq_true (by have := h.each x hx; omega)⟩
/-- What a checked expression says. -/
def sayB (l : List S45) (vs : List S56) : Bool := (rule_say.f l vs).getD false
theorem say_eq {l : List S45} {vs : List S56} (h : StepsFit l) (hv : VarsFit vs) (hc : okC l = true) : rule_say.f l vs = some (sayB l vs) := by
  obtain ⟨b, hb⟩ := G.say_some (rule_say.vrs vs) hc
  have hl := G.check_len hc
  have hl' : l.length ≤ 1024 := by simpa [expr_Check.prs] using hl
  have hf : rule_say.fit l vs = true := by
    unfold rule_say.fit
    rw [Bool.and_eq_true, Bool.and_eq_true, Bool.and_eq_true, decide_eq_true_eq, decide_eq_true_eq, List.all_eq_true, List.all_eq_true]
    exact ⟨⟨by omega, fun x hx => decide_eq_true (by have := h.each x hx; omega)⟩, by have := hv.len; omega, fun x hx => decide_eq_true (by have := (hv.each x hx).2; omega)⟩
  have : rule_say.f l vs = some b := by
    unfold rule_say.f
    rw [if_pos hf]
    exact hb
  unfold sayB
  rw [this]
  rfl
/-- A rule's expression may stand there. -/
def fine (r : S48) : Bool := r.f0.isEmpty || okC r.f0
def isOne (n : Int) : Bool := decide (0 ≤ n) && decide (n ≤ 3)
theorem one_eq (n : Int) : rule_one.f n = some (isOne n) := by
  unfold rule_one.f isOne
  by_cases h : 0 ≤ n
  · rw [if_pos h, decide_eq_true h]; rfl
  · rw [if_neg h, decide_eq_false h]; rfl
/-- A rule that holds. -/
def holds (vs : List S56) (r : S48) : Bool := r.f0.isEmpty || sayB r.f0 vs
def firstOf (vs : List S56) : List S48 → Int
  | [] => 3
  | r :: l => if holds vs r then r.f1 else firstOf vs l
/-- What When answers. -/
def whenR (l : List S48) (base : Int) (vs : List S56) : Int × Int :=
  if l.all fine then (if isOne base && decide (l.length ≤ 16) && l.all (fun r => isOne r.f1) then (if l.length = 0 then (base, 0) else (firstOf vs l, 0)) else (0, 121)) else (0, 120)
theorem when2 {l : List S48} {vs : List S56} (h : RulesFit l) (hv : VarsFit vs) (hf : l.all fine = true) (d : Nat) : ∀ (k i : Nat), l.length - i = d → i ≤ l.length → d < k → rule_When.l2 k vs l l.length i = some (firstOf vs (l.drop i), 0) := by
  have hl := h.len
  induction d with
  | zero =>
    intro k i hd hi hk
    obtain ⟨k, rfl⟩ : ∃ m, k = m + 1 := ⟨k - 1, by omega⟩
    obtain rfl : i = l.length := by omega
    unfold rule_When.l2
    rw [if_neg (by omega), List.drop_length]
    rfl
  | succ d ih =>
    intro k i hd hi hk
    obtain ⟨k, rfl⟩ : ∃ m, k = m + 1 := ⟨k - 1, by omega⟩
    have hi' : i < l.length := by omega
    unfold rule_When.l2
    rw [if_pos (by omega), if_pos (by omega), if_pos (by omega), rd48 hi', List.drop_eq_getElem_cons hi']
    have hfi : fine l[i] = true := List.all_eq_true.1 hf _ (List.getElem_mem _)
    unfold firstOf
    by_cases h0 : l[i].f0 = []
    · rw [if_pos (by rw [h0]; rfl), if_pos (by unfold holds; rw [h0]; rfl)]
    · have h1 : l[i].f0.isEmpty = false := by rw [Bool.eq_false_iff]; intro e; exact h0 (List.isEmpty_iff.1 e)
      have hc : okC l[i].f0 = true := by unfold fine at hfi; rw [h1, Bool.false_or] at hfi; exact hfi
      have hh : holds vs l[i] = sayB l[i].f0 vs := by unfold holds; rw [h1, Bool.false_or]
      rw [if_neg (by intro e; exact h0 (List.length_eq_zero_iff.1 (by omega))), say_eq (h.each _ (List.getElem_mem _)) hv hc, Option.bind_some, hh]
      by_cases h2 : sayB l[i].f0 vs = true
      · rw [if_pos h2, if_pos h2]
      · rw [if_neg h2, if_neg h2, wrap_up hi' (by omega)]
        exact ih k (i + 1) (by omega) (by omega) (by omega)
theorem when1 {l : List S48} {vs : List S56} (base : Int) (h : RulesFit l) (hv : VarsFit vs) (hf : l.all fine = true) (d : Nat) : ∀ (k i : Nat) (b : Bool), l.length - i = d → i ≤ l.length → d + l.length + 1 < k →
    rule_When.l1 k l base vs b l l.length i = some (if b && (l.drop i).all (fun r => isOne r.f1) then (if l.length = 0 then (base, 0) else (firstOf vs l, 0)) else (0, 121)) := by
  have hl := h.len
  induction d with
  | zero =>
    intro k i b hd hi hk
    obtain ⟨k, rfl⟩ : ∃ m, k = m + 1 := ⟨k - 1, by omega⟩
    obtain rfl : i = l.length := by omega
    unfold rule_When.l1
    rw [if_neg (by omega), List.drop_length]
    cases b
    · rfl
    · rw [if_pos rfl]
      by_cases h0 : l.length = 0
      · rw [if_pos (by omega)]
        simp [h0]
      · rw [if_neg (by omega), show (0 : Int) = ((0 : Nat) : Int) from rfl, when2 h hv hf l.length k 0 (by omega) (by omega) (by omega)]
        simp [h0]
  | succ d ih =>
    intro k i b hd hi hk
    obtain ⟨k, rfl⟩ : ∃ m, k = m + 1 := ⟨k - 1, by omega⟩
    have hi' : i < l.length := by omega
    unfold rule_When.l1
    rw [if_pos (by omega), if_pos (by omega), if_pos (by omega), rd48 hi', List.drop_eq_getElem_cons hi', List.all_cons, wrap_up hi' (by omega)]
    cases b
    · rw [if_neg (by decide), ih k (i + 1) false (by omega) (by omega) (by omega)]
      rfl
    · rw [if_pos rfl, one_eq, Option.bind_some, ih k (i + 1) _ (by omega) (by omega) (by omega), Bool.true_and]
theorem when0 {l : List S48} {vs : List S56} (base : Int) (h : RulesFit l) (hv : VarsFit vs) (d : Nat) : ∀ (k i : Nat), l.length - i = d → i ≤ l.length → d + 2 * l.length + 4 < k → (l.take i).all fine = true →
    rule_When.l0 k l base vs l l.length i = some (whenR l base vs) := by
  have hl := h.len
  induction d with
  | zero =>
    intro k i hd hi hk ht
    obtain ⟨k, rfl⟩ : ∃ m, k = m + 2 := ⟨k - 2, by omega⟩
    obtain rfl : i = l.length := by omega
    rw [List.take_length] at ht
    unfold rule_When.l0
    rw [if_neg (by omega), one_eq, Option.bind_some]
    have hj : ∀ b, rule_When.j1 (k + 1) l base vs b = some (if b && l.all (fun r => isOne r.f1) then (if l.length = 0 then (base, 0) else (firstOf vs l, 0)) else (0, 121)) := by
      intro b
      unfold rule_When.j1
      show rule_When.l1 k l base vs b l (l.length : Int) ((0 : Nat) : Int) = _
      rw [when1 base h hv ht l.length k 0 b (by omega) (by omega) (by omega)]
      rfl
    unfold whenR
    rw [if_pos ht]
    by_cases hb : isOne base = true
    · rw [if_pos hb, hj, hb, Bool.true_and]
      congr 4
      exact decide_eq_decide.2 (by omega)
    · rw [if_neg hb, hj, Bool.eq_false_iff.2 hb]
      rfl
  | succ d ih =>
    intro k i hd hi hk ht
    obtain ⟨k, rfl⟩ : ∃ m, k = m + 1 := ⟨k - 1, by omega⟩
    have hi' : i < l.length := by omega
    unfold rule_When.l0
    rw [if_pos (by omega), if_pos (by omega), if_pos (by omega), rd48 hi', wrap_up hi' (by omega)]
    have nx : fine l[i] = true → rule_When.l0 k l base vs l l.length ((i + 1 : Nat) : Int) = some (whenR l base vs) := by
      intro hf
      refine ih k (i + 1) (by omega) (by omega) (by omega) ?_
      rw [List.take_add_one, List.getElem?_eq_getElem hi', List.all_append, ht]
      simpa using hf
    by_cases h0 : l[i].f0 = []
    · rw [if_neg (by rw [h0]; simp), nx (by unfold fine; rw [h0]; rfl)]
    · have h1 : l[i].f0.isEmpty = false := by rw [Bool.eq_false_iff]; intro e; exact h0 (List.isEmpty_iff.1 e)
      have hh : fine l[i] = okC l[i].f0 := by unfold fine; rw [h1, Bool.false_or]
      rw [if_pos (by have := List.length_pos_iff.2 h0; omega), check_eq (h.each _ (List.getElem_mem _)), Option.bind_some]
      by_cases hc : okC l[i].f0 = true
      · rw [if_pos hc, nx (hh.trans hc)]
      · rw [if_neg hc]
        unfold whenR
        rw [if_neg]
        intro ha
        exact hc (hh ▸ List.all_eq_true.1 ha _ (List.getElem_mem hi'))
theorem when_eq {l : List S48} {vs : List S56} (base : Int) (h : RulesFit l) (hv : VarsFit vs) {k : Nat} (hk : 3 * l.length + 4 < k) : rule_When.f k l base vs = some (whenR l base vs) := by
  unfold rule_When.f
  exact when0 base h hv l.length k 0 (by omega) (by omega) (by omega) rfl
theorem eval_eq {l : List S45} {vs : List S56} (h : StepsFit l) (hv : VarsFit vs) (hc : okC l = true) : rule_Eval.f l vs = some (sayB l vs, 0) := by
  unfold rule_Eval.f
  rw [check_eq h, Option.bind_some, if_pos hc, say_eq h hv hc]
  rfl
theorem low_eq (a : Int) : ∃ q : Int, 0 ≤ q ∧ q ≤ 9223372036854775807 ∧ shuttlelaw0_Low.f a = some q := by
  have h1 : ((BitVec.ofInt 64 a &&& BitVec.ofInt 64 9223372036854775807).toNat : Nat) ≤ 9223372036854775807 := by
    rw [BitVec.toNat_and]
    exact Nat.le_trans Nat.and_le_right (by decide)
  have e : Go.bits .and .i64 a 9223372036854775807 = IntKind.i64.wrap ((BitVec.ofInt 64 a &&& BitVec.ofInt 64 9223372036854775807).toNat : Int) := rfl
  obtain ⟨x, hx⟩ : ∃ x : Nat, x = (BitVec.ofInt 64 a &&& BitVec.ofInt 64 9223372036854775807).toNat := ⟨_, rfl⟩
  rw [← hx] at h1 e
  refine ⟨x, by omega, by omega, ?_⟩
  unfold shuttlelaw0_Low.f
  rw [e, IntKind.wrap_i64]
  exact congrArg some (by omega)
theorem firstOf_none {vs : List S56} : ∀ {l : List S48}, (∀ m (h : m < l.length), holds vs l[m] = false) → firstOf vs l = 3 := by
  intro l
  induction l with
  | nil => intro _; rfl
  | cons r l ih =>
    intro h
    unfold firstOf
    have h0 : holds vs r = false := h 0 (by simp)
    rw [h0, if_neg (by decide)]
    exact ih fun m hm => h (m + 1) (by simp; exact hm)
theorem firstOf_at {vs : List S56} : ∀ {l : List S48} {j : Nat} (hj : j < l.length), holds vs l[j] = true → (∀ m (h : m < j), holds vs (l[m]'(by omega)) = false) → firstOf vs l = l[j].f1 := by
  intro l
  induction l with
  | nil => intro j hj; cases hj
  | cons r l ih =>
    intro j hj h1 h2
    unfold firstOf
    cases j with
    | zero =>
      have h0 : holds vs r = true := h1
      rw [if_pos h0]
      rfl
    | succ j =>
      have h0 : holds vs r = false := h2 0 (by omega)
      rw [h0, if_neg (by decide)]
      exact ih (by simpa using hj) h1 fun m hm => h2 (m + 1) (by omega)
/-- How far the law's search has come. -/
def Found (vs : List S56) (l : List S48) (i : Nat) (x : Int) : Prop :=
  (x = -1 ∧ ∀ m (h : m < l.length), i ≤ m → holds vs l[m] = false) ∨ (∃ j : Nat, ∃ h : j < l.length, x = (j : Int) ∧ i ≤ j ∧ holds vs l[j] = true ∧ ∀ m (h : m < j), i ≤ m → holds vs (l[m]'(by omega)) = false)
theorem Found.yes {vs : List S56} {l : List S48} {i : Nat} (hi : i < l.length) (h : holds vs l[i] = true) : Found vs l i (i : Int) :=
  .inr ⟨i, hi, rfl, Nat.le_refl _, h, fun m h1 h2 => by omega⟩
theorem Found.no {vs : List S56} {l : List S48} {i : Nat} {x : Int} (hi : i < l.length) (h : holds vs l[i] = false) (hf : Found vs l (i + 1) x) : Found vs l i x := by
  rcases hf with ⟨rfl, h1⟩ | ⟨j, hj, rfl, h1, h2, h3⟩
  · refine .inl ⟨rfl, fun m hm h2 => ?_⟩
    by_cases e : m = i
    · subst e; exact h
    · exact h1 m hm (by omega)
  · refine .inr ⟨j, hj, rfl, by omega, h2, fun m hm h4 => ?_⟩
    by_cases e : m = i
    · subst e; exact h
    · exact h3 m hm (by omega)
theorem first_end {l : List S48} {vs : List S56} (a3 : Int) (h : RulesFit l) (hv : VarsFit vs) (hf : l.all fine = true) (h1 : l.all (fun r => isOne r.f1) = true) (h16 : l.length ≤ 16) {x : Int} (hx : Found vs l 0 x) {k : Nat} (hk : 100 ≤ k) :
    shuttlelaw12_RuleFirst.l0 k l vs a3 (firstOf vs l) x (-1) = some true := by
  obtain ⟨k, rfl⟩ : ∃ m, k = m + 1 := ⟨k - 1, by omega⟩
  unfold shuttlelaw12_RuleFirst.l0
  rw [if_neg (by omega)]
  have aw : (shuttlelaw12_awake.f k).bind (fun t => some t) = some true := by rw [awake_true k (by omega)]; rfl
  rcases hx with ⟨rfl, h2⟩ | ⟨j, hj, rfl, _, h2, h3⟩
  · rw [if_pos (by omega), if_pos (firstOf_none fun m hm => h2 m hm (by omega))]
    exact aw
  · rw [if_neg (by omega)]
    obtain ⟨q, hq0, hq1, hq⟩ := low_eq a3
    have hw : wrap64 ((l.length : Int) - (j : Int)) = ((l.length - j : Nat) : Int) := by unfold wrap64; omega
    have hw2 : wrap64 ((j : Int) + 1) = (j : Int) + 1 := by unfold wrap64; omega
    rw [hq, Option.bind_some, hw, hw2]
    have ht : Int.tmod q ((l.length - j : Nat) : Int) = q % ((l.length - j : Nat) : Int) := Int.tmod_eq_emod_of_nonneg hq0
    rw [ht]
    have hm0 : 0 ≤ q % ((l.length - j : Nat) : Int) := Int.emod_nonneg _ (by omega)
    have hm1 : q % ((l.length - j : Nat) : Int) < ((l.length - j : Nat) : Int) := Int.emod_lt_of_pos _ (by omega)
    obtain ⟨m, hm⟩ : ∃ m : Nat, q % ((l.length - j : Nat) : Int) = (m : Int) := ⟨_, (Int.toNat_of_nonneg hm0).symm⟩
    rw [hm] at hm1 ⊢
    clear hw hw2 ht hm hm0 hq0 hq1 hq
    have hmn : mn (wrap64 ((j : Int) + 1 + (m : Int))) (l.length : Int) = ((j + 1 + m : Nat) : Int) := by unfold mn wrap64; split <;> omega
    rw [hmn]
    clear hmn
    rw [if_neg (show ¬ ((l.length - j : Nat) : Int) = 0 by omega)]
    rw [if_pos (show (0 : Int) ≤ ((j + 1 + m : Nat) : Int) by omega)]
    rw [if_pos (show ((j + 1 + m : Nat) : Int) ≤ (l.length : Int) by omega)]
    rw [Int.toNat_natCast, copyRules_eq (h.take _) (by rw [List.length_take]; omega), Option.bind_some, copyVars_eq hv.len, Option.bind_some, when_eq 3 (h.take _) hv (by rw [List.length_take]; omega), Option.bind_some, if_pos (by omega), if_pos (by omega), rd48 hj]
    have hF : firstOf vs l = l[j].f1 := firstOf_at hj h2 fun m hm => h3 m hm (by omega)
    have hjt : j < (l.take (j + 1 + m)).length := by rw [List.length_take]; omega
    have hT : firstOf vs (l.take (j + 1 + m)) = l[j].f1 := by
      have := firstOf_at (vs := vs) hjt (by rw [List.getElem_take]; exact h2) (fun p hp => by rw [List.getElem_take]; exact h3 p hp (by omega))
      rw [this, List.getElem_take]
    have hR : whenR (l.take (j + 1 + m)) 3 vs = (l[j].f1, 0) := by
      unfold whenR
      have a1 : (l.take (j + 1 + m)).all fine = true := List.all_eq_true.2 fun x hx => List.all_eq_true.1 hf x (List.mem_of_mem_take hx)
      have a2 : (l.take (j + 1 + m)).all (fun r => isOne r.f1) = true := List.all_eq_true.2 fun x hx => List.all_eq_true.1 h1 x (List.mem_of_mem_take hx)
      rw [if_pos a1, a2, if_pos (by rw [decide_eq_true (show (l.take (j + 1 + m)).length ≤ 16 by rw [List.length_take]; omega)]; rfl), if_neg (by omega), hT]
    rw [hR, if_pos hF, if_pos rfl, if_pos hF.symm]
    exact aw
theorem first_loop {l : List S48} {vs : List S56} (a3 : Int) (h : RulesFit l) (hv : VarsFit vs) (hf : l.all fine = true) (h1 : l.all (fun r => isOne r.f1) = true) (h16 : l.length ≤ 16) : ∀ (i k : Nat) (x : Int), i ≤ l.length → Found vs l i x → 100 + i ≤ k →
    shuttlelaw12_RuleFirst.l0 k l vs a3 (firstOf vs l) x ((i : Int) - 1) = some true := by
  intro i
  induction i with
  | zero =>
    intro k x _ hx hk
    exact first_end a3 h hv hf h1 h16 hx hk
  | succ i ih =>
    intro k x hi hx hk
    obtain ⟨k, rfl⟩ : ∃ m, k = m + 1 := ⟨k - 1, by omega⟩
    have hi' : i < l.length := by omega
    have e : (((i + 1 : Nat) : Int) - 1) = (i : Int) := by omega
    have ew : wrap64 ((i : Int) - 1) = (i : Int) - 1 := by unfold wrap64; omega
    rw [e]
    unfold shuttlelaw12_RuleFirst.l0
    rw [if_pos (by omega), if_pos (by omega), if_pos (by omega), rd48 hi', ew]
    have y := fun (hh : holds vs l[i] = true) => ih k (i : Int) (by omega) (Found.yes hi' hh) (by omega)
    have n := fun (hh : holds vs l[i] = false) => ih k x (by omega) (Found.no hi' hh hx) (by omega)
    by_cases h0 : l[i].f0 = []
    · have hl0 : ((l[i].f0.length : Nat) : Int) = 0 := by rw [h0]; rfl
      rw [if_pos hl0, if_pos hl0]
      exact y (by unfold holds; rw [h0]; rfl)
    · have h2 : l[i].f0.isEmpty = false := by rw [Bool.eq_false_iff]; intro e; exact h0 (List.isEmpty_iff.1 e)
      have hfi : fine l[i] = true := List.all_eq_true.1 hf _ (List.getElem_mem _)
      have hc : okC l[i].f0 = true := by unfold fine at hfi; rw [h2, Bool.false_or] at hfi; exact hfi
      have hh : holds vs l[i] = sayB l[i].f0 vs := by unfold holds; rw [h2, Bool.false_or]
      have hs := h.each _ (List.getElem_mem hi')
      rw [if_neg (by intro e; exact h0 (List.length_eq_zero_iff.1 (by omega))), copySteps_eq hs.len, Option.bind_some, copyVars_eq hv.len, Option.bind_some, eval_eq hs hv hc, Option.bind_some]
      by_cases h3 : sayB l[i].f0 vs = true
      · rw [if_pos h3]
        exact y (hh.trans h3)
      · rw [if_neg h3]
        exact n (hh.trans (Bool.eq_false_iff.2 h3))
theorem ruleFirst_eq {l : List S48} {vs : List S56} (a1 a3 : Int) (h : RulesFit l) (hv : VarsFit vs) : ∃ k, shuttlelaw12_RuleFirst.f k l a1 vs a3 = some true := by
  refine ⟨3 * l.length + 200, ?_⟩
  unfold shuttlelaw12_RuleFirst.f
  have aw : (shuttlelaw12_awake.f (3 * l.length + 200)).bind (fun t => some t) = some true := by rw [awake_true _ (by omega)]; rfl
  rw [copyRules_eq h (by omega), Option.bind_some, copyVars_eq hv.len, Option.bind_some, when_eq a1 h hv (by omega), Option.bind_some]
  unfold whenR
  by_cases c1 : l.all fine = true
  · rw [if_pos c1]
    by_cases c2 : (isOne a1 && decide (l.length ≤ 16) && l.all (fun r => isOne r.f1)) = true
    · rw [if_pos c2]
      rw [Bool.and_eq_true, Bool.and_eq_true, decide_eq_true_eq] at c2
      by_cases c3 : l.length = 0
      · rw [if_pos c3, if_pos rfl, if_pos (by omega), if_pos rfl]
        exact aw
      · rw [if_neg c3, if_pos rfl, if_neg (by omega)]
        have e : wrap64 ((l.length : Int) - 1) = (l.length : Int) - 1 := by unfold wrap64; have := c2.1.2; omega
        rw [e]
        exact first_loop a3 h hv c1 c2.2 c2.1.2 l.length _ (-1) (Nat.le_refl _) (.inl ⟨rfl, fun m h1 h2 => by omega⟩) (by omega)
    · rw [if_neg c2, if_neg (by decide), if_pos rfl]
      exact aw
  · rw [if_neg c1, if_neg (by decide), if_pos rfl]
    exact aw
end Go.Proofs.Ytinhlaiogkmkfaa.PA
