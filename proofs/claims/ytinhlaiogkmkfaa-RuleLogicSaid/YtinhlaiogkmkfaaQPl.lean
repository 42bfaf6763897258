/- RuleLogic's plain law: what is run on a stack leaves what lies below as it is; and, or, not, and the comparisons of two texts. -/
import Derived.Test.YtinhlaiogkmkfaaQPs
namespace Go.Proofs.Ytinhlaiogkmkfaa.G
open Go.RowKit
set_option linter.unusedVariables false
theorem mt_nil : mt.toList = [] := by decide +kernel
theorem popC_frame {st0 st s l : List Prt} {n : Nat} {t : Bool} (h : popC st n t = some (s, l)) : popC (st0 ++ st) n t = some (st0 ++ s, l) := by
  obtain ⟨rfl, h1, h2⟩ := popC_parts h
  rw [← List.append_assoc]
  exact popC_some h1 h2
theorem stepC_frame {st0 st st' : List Prt} {k : Int} {tx : ByteArray} (h : stepC st k tx = some st') : stepC (st0 ++ st) k tx = some (st0 ++ st') := by
  have pop : ∀ {m : Nat} {t : Bool} (ok : List Prt → Bool), (match popC st m t with | some (s, l) => if ok l && tx.toList.isEmpty then some (s ++ [tru]) else none | none => none) = some st' →
      (match popC (st0 ++ st) m t with | some (s, l) => if ok l && tx.toList.isEmpty then some (s ++ [tru]) else none | none => none) = some (st0 ++ st') := by
    intro m t ok e
    split at e
    · rename_i s l hp
      rw [popC_frame hp]
      split at e
      · rename_i h1
        injection e with e
        subst e
        dsimp only
        rw [if_pos h1, List.append_assoc]
      · cases e
    · cases e
  have lift : ∀ {b : Bool} {q : Prt}, (if b then some (st ++ [q]) else none) = some st' → (if b then some (st0 ++ st ++ [q]) else none) = some (st0 ++ st') := by
    intro b q e
    split at e
    · rename_i h1
      injection e with e
      subst e
      rw [if_pos h1, List.append_assoc]
    · cases e
  unfold stepC at h ⊢
  simp only [] at h ⊢
  by_cases c1 : k = 1
  · rw [if_pos c1] at h ⊢
    split at h
    · rename_i h1
      injection h with h
      subst h
      rw [if_pos h1, List.append_assoc]
    · cases h
  rw [if_neg c1] at h ⊢
  by_cases c2 : k = 2
  · rw [if_pos c2] at h ⊢; exact lift h
  rw [if_neg c2] at h ⊢
  by_cases c3 : k = 3
  · rw [if_pos c3] at h ⊢; exact lift h
  rw [if_neg c3] at h ⊢
  by_cases c4 : k = 4 ∨ k = 5
  · rw [if_pos c4] at h ⊢; exact lift h
  rw [if_neg c4] at h ⊢
  by_cases c5 : k = 6
  · rw [if_pos c5] at h ⊢; exact pop (fun _ => true) h
  rw [if_neg c5] at h ⊢
  by_cases c6 : k = 7 ∨ k = 8
  · rw [if_pos c6] at h ⊢; exact pop (fun _ => true) h
  rw [if_neg c6] at h ⊢
  by_cases c7 : k = 9 ∨ k = 10
  · rw [if_pos c7] at h ⊢; exact pop (fun l => match l[1]? with | some q => q.lit && (checkRes q.text).2 == 0 | none => false) h
  rw [if_neg c7] at h ⊢
  by_cases c8 : k = 11
  · rw [if_pos c8] at h ⊢; exact pop (fun _ => true) h
  rw [if_neg c8] at h ⊢
  by_cases c9 : k = 12 ∨ k = 13
  · rw [if_pos c9] at h ⊢; exact pop (fun _ => true) h
  rw [if_neg c9] at h
  cases h
theorem lay1_frame {st0 st st' : List Vl} {f : Vl → Bool} (h : lay1 st f = some st') : lay1 (st0 ++ st) f = some (st0 ++ st') := by
  obtain ⟨s, a, rfl, rfl⟩ := lay1_some h
  unfold lay1
  rw [← List.append_assoc, pop1_snoc, Option.map_some, List.append_assoc]
theorem lay2_frame {st0 st st' : List Vl} {f : Vl → Vl → Bool} (h : lay2 st f = some st') : lay2 (st0 ++ st) f = some (st0 ++ st') := by
  obtain ⟨s, a, b, rfl, rfl⟩ := lay2_some h
  unfold lay2
  rw [← List.append_assoc, ← List.append_assoc, pop1_snoc, Option.bind_some]
  show Option.map _ (pop1 (st0 ++ s ++ [a])) = _
  rw [pop1_snoc, Option.map_some, List.append_assoc]
theorem stepV_frame {vs : List (ByteArray × ByteArray)} {st0 st st' : List Vl} {k : Int} {tx : ByteArray} (h : stepV vs k tx st = some st') : stepV vs k tx (st0 ++ st) = some (st0 ++ st') := by
  have push : ∀ {v : Vl}, some (st ++ [v]) = some st' → some (st0 ++ st ++ [v]) = some (st0 ++ st') := by
    intro v e
    injection e with e
    subst e
    rw [List.append_assoc]
  unfold stepV at h ⊢
  by_cases c1 : k = 1
  · rw [if_pos c1] at h ⊢; exact push h
  rw [if_neg c1] at h ⊢
  by_cases c2 : k = 2
  · rw [if_pos c2] at h ⊢; exact push h
  rw [if_neg c2] at h ⊢
  by_cases c3 : k = 3
  · rw [if_pos c3] at h ⊢; exact push h
  rw [if_neg c3] at h ⊢
  by_cases c4 : k = 4
  · rw [if_pos c4] at h ⊢; exact push h
  rw [if_neg c4] at h ⊢
  by_cases c5 : k = 5
  · rw [if_pos c5] at h ⊢; exact push h
  rw [if_neg c5] at h ⊢
  by_cases c6 : k = 6
  · rw [if_pos c6] at h ⊢; exact lay1_frame h
  rw [if_neg c6] at h ⊢
  by_cases c7 : k = 7
  · rw [if_pos c7] at h ⊢; exact lay2_frame h
  rw [if_neg c7] at h ⊢
  by_cases c8 : k = 8
  · rw [if_pos c8] at h ⊢; exact lay2_frame h
  rw [if_neg c8] at h ⊢
  by_cases c9 : k = 9
  · rw [if_pos c9] at h ⊢; exact lay2_frame h
  rw [if_neg c9] at h ⊢
  by_cases c10 : k = 10
  · rw [if_pos c10] at h ⊢; exact lay2_frame h
  rw [if_neg c10] at h ⊢
  by_cases c11 : k = 11
  · rw [if_pos c11] at h ⊢; exact lay1_frame h
  rw [if_neg c11] at h ⊢
  by_cases c12 : k = 12
  · rw [if_pos c12] at h ⊢; exact lay2_frame h
  rw [if_neg c12] at h ⊢
  by_cases c13 : k = 13
  · rw [if_pos c13] at h ⊢; exact lay2_frame h
  rw [if_neg c13] at h
  cases h
theorem runC_frame (st0 : List Prt) : ∀ (t : List (Int × ByteArray)) {st st' : List Prt}, runC t st = some st' → runC t (st0 ++ st) = some (st0 ++ st') := by
  intro t
  induction t with
  | nil => intro st st' h; injection h with h; subst h; rfl
  | cons q r ih =>
    intro st st' h
    unfold runC at h ⊢
    rw [Option.bind_eq_some_iff] at h
    obtain ⟨s1, h1, h2⟩ := h
    rw [stepC_frame h1]
    exact ih h2
theorem runV_frame (vs : List (ByteArray × ByteArray)) (st0 : List Vl) : ∀ (t : List (Int × ByteArray)) {st st' : List Vl}, runV vs t st = some st' → runV vs t (st0 ++ st) = some (st0 ++ st') := by
  intro t
  induction t with
  | nil => intro st st' h; injection h with h; subst h; rfl
  | cons q r ih =>
    intro st st' h
    unfold runV at h ⊢
    rw [Option.bind_eq_some_iff] at h
    obtain ⟨s1, h1, h2⟩ := h
    rw [stepV_frame h1]
    exact ih h2
theorem runC_app : ∀ (a b : List (Int × ByteArray)) (st : List Prt), runC (a ++ b) st = (runC a st).bind (runC b) := by
  intro a
  induction a with
  | nil => intro b st; rfl
  | cons q r ih =>
    intro b st
    show (stepC st q.1 q.2).bind (runC (r ++ b)) = ((stepC st q.1 q.2).bind (runC r)).bind (runC b)
    cases stepC st q.1 q.2 with
    | none => rfl
    | some s => exact ih b s
theorem runV_app (vs : List (ByteArray × ByteArray)) : ∀ (a b : List (Int × ByteArray)) (st : List Vl), runV vs (a ++ b) st = (runV vs a st).bind (runV vs b) := by
  intro a
  induction a with
  | nil => intro b st; rfl
  | cons q r ih =>
    intro b st
    show (stepV vs q.1 q.2 st).bind (runV vs (r ++ b)) = ((stepV vs q.1 q.2 st).bind (runV vs r)).bind (runV vs b)
    cases stepV vs q.1 q.2 st with
    | none => rfl
    | some s => exact ih b s
/-- A checked expression leaves one truth. -/
theorem checkB_run {t : List (Int × ByteArray)} (h : checkB t = true) : ∃ q, runC t [] = some [q] ∧ q.truth = true := by
  unfold checkB at h
  rw [Bool.and_eq_true] at h
  cases hr : runC t [] with
  | none => rw [hr] at h; cases h.2
  | some st =>
    rw [hr] at h
    match st, h.2 with
    | [q], h2 => exact ⟨q, rfl, h2⟩
theorem sayV_run {vs : List (ByteArray × ByteArray)} {t : List (Int × ByteArray)} {x : Bool} (hc : checkB t = true) (h : sayV vs t = some x) : ∃ v, runV vs t [] = some [v] ∧ v.ok = x := by
  obtain ⟨q, h1, _⟩ := checkB_run hc
  obtain ⟨sv, h2, h3⟩ := run_on vs t (sv := []) h1 rfl
  obtain ⟨s, a, rfl, hs⟩ := snoc_of (n := 0) h3
  obtain rfl : s = [] := List.length_eq_zero_iff.1 hs
  refine ⟨a, h2, ?_⟩
  unfold sayV at h
  rw [h2, Option.bind_some, pop1_snoc] at h
  injection h
theorem two_run {vs : List (ByteArray × ByteArray)} {a b : List (Int × ByteArray)} {x y : Bool} (ha : checkB a = true) (hb : checkB b = true) (hx : sayV vs a = some x) (hy : sayV vs b = some y) :
    (∃ q q', runC (a ++ b) [] = some [q, q'] ∧ q.truth = true ∧ q'.truth = true) ∧ ∃ v v', runV vs (a ++ b) [] = some [v, v'] ∧ v.ok = x ∧ v'.ok = y := by
  obtain ⟨q, h1, h2⟩ := checkB_run ha
  obtain ⟨q', h3, h4⟩ := checkB_run hb
  obtain ⟨v, h5, h6⟩ := sayV_run ha hx
  obtain ⟨v', h7, h8⟩ := sayV_run hb hy
  refine ⟨⟨q, q', ?_, h2, h4⟩, v, v', ?_, h6, h8⟩
  · rw [runC_app, h1, Option.bind_some]
    exact runC_frame [q] b h3
  · rw [runV_app, h5, Option.bind_some]
    exact runV_frame vs [v] b h7
theorem and_on {vs : List (ByteArray × ByteArray)} {a b : List (Int × ByteArray)} {x y : Bool} (k : Int) (hk : k = 12 ∨ k = 13) (hl : a.length + b.length ≤ 500) (ha : checkB a = true) (hb : checkB b = true) (hx : sayV vs a = some x) (hy : sayV vs b = some y) :
    checkB (a ++ b ++ [(k, mt)]) = true ∧ sayV vs (a ++ b ++ [(k, mt)]) = some (if k = 12 then x && y else x || y) := by
  obtain ⟨⟨q, q', h1, h2, h3⟩, v, v', h4, h5, h6⟩ := two_run ha hb hx hy
  have hs : stepC [q, q'] k mt = some [tru] := by
    have hp : popC [q, q'] 2 true = some ([], [q, q']) := popC_some (st0 := []) rfl (by intro z hz; simp at hz; rcases hz with rfl | rfl <;> assumption)
    rcases hk with rfl | rfl
    · unfold stepC; simp [hp, mt_nil]
    · unfold stepC; simp [hp, mt_nil]
  constructor
  · unfold checkB
    rw [Bool.and_eq_true]
    refine ⟨decide_eq_true (by simp; omega), ?_⟩
    rw [runC_app, h1, Option.bind_some]
    unfold runC
    rw [hs]
    rfl
  · unfold sayV
    rw [runV_app, h4, Option.bind_some]
    subst h5 h6
    rcases hk with rfl | rfl
    · rfl
    · rfl
theorem not_on {vs : List (ByteArray × ByteArray)} {a : List (Int × ByteArray)} {x : Bool} (hl : a.length ≤ 500) (ha : checkB a = true) (hx : sayV vs a = some x) :
    checkB (a ++ [(11, mt)]) = true ∧ sayV vs (a ++ [(11, mt)]) = some (!x) := by
  obtain ⟨q, h1, h2⟩ := checkB_run ha
  obtain ⟨v, h5, h6⟩ := sayV_run ha hx
  have hs : stepC [q] 11 mt = some [tru] := by
    have hp : popC [q] 1 true = some ([], [q]) := popC_some (st0 := []) rfl (by intro z hz; simp at hz; rcases hz with rfl; assumption)
    unfold stepC; simp [hp, mt_nil]
  constructor
  · unfold checkB
    rw [Bool.and_eq_true]
    refine ⟨decide_eq_true (by simp; omega), ?_⟩
    rw [runC_app, h1, Option.bind_some]
    unfold runC
    rw [hs]
    rfl
  · unfold sayV
    rw [runV_app, h5, Option.bind_some]
    subst h6
    rfl
/-- Two texts compared. -/
theorem cmp_on (vs : List (ByteArray × ByteArray)) (s p : ByteArray) (k : Int) (hk : k = 7 ∨ k = 8 ∨ k = 9 ∨ k = 10) :
    checkB [(1, s), (1, p), (k, mt)] = (decide (s.size ≤ 1024) && decide (p.size ≤ 1024) && (decide (k ≤ 8) || (checkRes p).2 == 0)) ∧
    sayV vs [(1, s), (1, p), (k, mt)] = some (if k = 7 then s.toList == p.toList else if k = 8 then !(s.toList == p.toList) else if k = 9 then (matchRes p s).1 else !(matchRes p s).1) := by
  constructor
  · unfold checkB
    rw [decide_eq_true (show [(1, s), (1, p), (k, mt)].length ≤ 1024 by simp), Bool.true_and]
    by_cases h1 : s.size ≤ 1024
    · by_cases h2 : p.size ≤ 1024
      · have e1 : stepC [] 1 s = some [⟨false, true, s⟩] := by unfold stepC; simp [h1]
        have e2 : stepC [⟨false, true, s⟩] 1 p = some [⟨false, true, s⟩, ⟨false, true, p⟩] := by unfold stepC; simp [h2]
        have hp : popC [⟨false, true, s⟩, ⟨false, true, p⟩] 2 false = some ([], [⟨false, true, s⟩, ⟨false, true, p⟩]) := popC_some (st0 := []) rfl (by intro z hz; simp at hz; rcases hz with rfl | rfl <;> rfl)
        show rootC ((stepC [] 1 s).bind fun x => (stepC x 1 p).bind fun y => (stepC y k mt).bind fun z => some z) = _
        rw [e1, Option.bind_some, e2, Option.bind_some, decide_eq_true h1, decide_eq_true h2]
        have m0 := mt_nil
        rcases hk with rfl | rfl | rfl | rfl
        · unfold stepC; simp [hp, m0]; rfl
        · unfold stepC; simp [hp, m0]; rfl
        · unfold stepC
          by_cases c : (checkRes p).2 = 0
          · simp [hp, m0, c]; rfl
          · have c' : ((checkRes p).2 == 0) = false := beq_eq_false_iff_ne.2 c
            rw [c']
            simp [hp, m0, c']
            rfl
        · unfold stepC
          by_cases c : (checkRes p).2 = 0
          · simp [hp, m0, c]; rfl
          · have c' : ((checkRes p).2 == 0) = false := beq_eq_false_iff_ne.2 c
            rw [c']
            simp [hp, m0, c']
            rfl
      · have e1 : stepC [] 1 s = some [⟨false, true, s⟩] := by unfold stepC; simp [h1]
        have e2 : stepC [⟨false, true, s⟩] 1 p = none := by unfold stepC; simp [h2]
        show rootC ((stepC [] 1 s).bind fun x => (stepC x 1 p).bind fun y => (stepC y k mt).bind fun z => some z) = _
        rw [e1, Option.bind_some, e2, decide_eq_false h2]
        simp [rootC]
    · have e1 : stepC [] 1 s = none := by unfold stepC; simp [h1]
      show rootC ((stepC [] 1 s).bind fun x => (stepC x 1 p).bind fun y => (stepC y k mt).bind fun z => some z) = _
      rw [e1, decide_eq_false h1]
      simp [rootC]
  · rcases hk with rfl | rfl | rfl | rfl
    · rfl
    · rfl
    · rfl
    · rfl
end Go.Proofs.Ytinhlaiogkmkfaa.G
