/- RuleNames: the law's function answers true. -/
import Derived.Test.YtinhlaiogkmkfaaQFx
import Derived.Test.YtinhlaiogkmkfaaQKc
import Derived.Test.YtinhlaiogkmkfaaQFo
namespace Go.Proofs.Ytinhlaiogkmkfaa.PA
open Go.RowKit Go.Proofs.YtinhlaiogkmkfaaW.PrintWords Go.Proofs.YtinhlaiogkmkfaaW.PrintLast Go.Proofs.YtinhlaiogkmkfaaW.PrintMore
set_option linter.unusedVariables false
theorem stepV_of {a b : List (ByteArray × ByteArray)} {k : Int} {tx : ByteArray} (h : G.namedB k = true → G.getV a tx = G.getV b tx) (st : List G.Vl) : G.stepV a k tx st = G.stepV b k tx st := by
  unfold G.stepV
  by_cases c2 : k = 2
  · have e := h (by unfold G.namedB; rw [c2]; rfl)
    unfold G.getT G.getB
    rw [e]
  by_cases c3 : k = 3
  · have e := h (by unfold G.namedB; rw [c3]; rfl)
    unfold G.getT G.getB
    rw [e]
  · rw [if_neg c2, if_neg c3, if_neg c2, if_neg c3]
theorem runV_of {a b : List (ByteArray × ByteArray)} : ∀ (t : List (Int × ByteArray)) (st : List G.Vl), (∀ q ∈ t, G.namedB q.1 = true → G.getV a q.2 = G.getV b q.2) → G.runV a t st = G.runV b t st := by
  intro t
  induction t with
  | nil => intro st _; rfl
  | cons q r ih =>
    intro st h
    show (G.stepV a q.1 q.2 st).bind (G.runV a r) = (G.stepV b q.1 q.2 st).bind (G.runV b r)
    rw [stepV_of (h q (List.mem_cons_self ..)) st]
    congr 1
    funext s
    exact ih s fun p hp => h p (List.mem_cons_of_mem _ hp)
theorem say_of_names {l : List S45} {a b : List S56} (h0 : StepsFit l) (ha : VarsFit a) (hb : VarsFit b) (hc : okC l = true) (h : ∀ x ∈ l, G.namedB x.f0 = true → G.getV (rule_say.vrs a) x.f1 = G.getV (rule_say.vrs b) x.f1) : sayB l a = sayB l b := by
  have e1 := sayV_eq h0 ha hc
  have e2 := sayV_eq h0 hb hc
  unfold G.sayV at e1 e2
  rw [runV_of (expr_Check.prs l) [] (fun q hq hn => by
    unfold expr_Check.prs at hq
    obtain ⟨x, hx, rfl⟩ := List.mem_map.1 hq
    exact h x hx hn)] at e1
  exact Option.some.inj (e1.symm.trans e2)
def ownOf (vs : List S56) (n : List ByteArray) : List S56 := n.filterMap fun x => (G.getV (rule_say.vrs vs) x).map fun v => (⟨x, v⟩ : S56)
def inN (n : List ByteArray) (m : S56) : Bool := n.any fun x => x.toList == m.f0.toList
def othersOf (n : List ByteArray) (more : List S56) : List S56 := more.filter fun m => !inN n m
theorem getV_own {vs : List S56} {x : ByteArray} : ∀ (n : List ByteArray), x ∈ n → G.getV (rule_say.vrs (ownOf vs n)) x = G.getV (rule_say.vrs vs) x := by
  have miss : ∀ (n : List ByteArray), G.getV (rule_say.vrs vs) x = none → G.getV (rule_say.vrs (ownOf vs n)) x = none := by
    intro n hx
    induction n with
    | nil => rfl
    | cons y r ih =>
      unfold ownOf
      rw [List.filterMap_cons]
      cases hy : G.getV (rule_say.vrs vs) y with
      | none => exact ih
      | some v =>
        show (if y.toList == x.toList then some v else G.getV (rule_say.vrs (ownOf vs r)) x) = none
        rw [if_neg, ih]
        intro e
        rw [bt_ext (beq_iff_eq.1 e), hx] at hy
        cases hy
  intro n
  induction n with
  | nil => intro h; cases h
  | cons y r ih =>
    intro h
    cases hx : G.getV (rule_say.vrs vs) x with
    | none => exact miss _ hx
    | some z =>
      unfold ownOf
      rw [List.filterMap_cons]
      by_cases e : y.toList = x.toList
      · obtain rfl := bt_ext e
        rw [hx]
        show (if y.toList == y.toList then some z else _) = some z
        rw [if_pos (beq_self_eq_true _)]
      · have hr : x ∈ r := by
          rcases List.mem_cons.1 h with rfl | h
          · exact absurd rfl e
          · exact h
        have ih' := (ih hr).trans hx
        cases hy : G.getV (rule_say.vrs vs) y with
        | none => exact ih'
        | some v =>
          show (if y.toList == x.toList then some v else G.getV (rule_say.vrs (ownOf vs r)) x) = some z
          rw [if_neg (by simpa using e)]
          exact ih'
theorem getV_others {n : List ByteArray} {x : ByteArray} (hx : x ∈ n) (own : List S56) : ∀ (more : List S56), G.getV (rule_say.vrs (othersOf n more ++ own)) x = G.getV (rule_say.vrs own) x := by
  intro more
  induction more with
  | nil => rfl
  | cons m r ih =>
    unfold othersOf
    rw [List.filter_cons]
    cases hm : inN n m with
    | true =>
      rw [if_neg (by decide)]
      exact ih
    | false =>
      show (if m.f0.toList == x.toList then some m.f1 else G.getV (rule_say.vrs (othersOf n r ++ own)) x) = _
      rw [if_neg, ih]
      intro e
      have : inN n m = true := by
        unfold inN
        rw [List.any_eq_true]
        exact ⟨x, hx, by rw [beq_iff_eq.1 e]; exact beq_self_eq_true _⟩
      rw [hm] at this
      cases this
theorem getV_mem {x v : ByteArray} : ∀ (l : List S56), G.getV (rule_say.vrs l) x = some v → ∃ m ∈ l, m.f1 = v := by
  intro l
  induction l with
  | nil => intro h; cases h
  | cons m r ih =>
    intro h
    have h' : (if m.f0.toList == x.toList then some m.f1 else G.getV (rule_say.vrs r) x) = some v := h
    by_cases c : (m.f0.toList == x.toList) = true
    · rw [if_pos c] at h'
      exact ⟨m, List.mem_cons_self .., Option.some.inj h'⟩
    · rw [if_neg c] at h'
      obtain ⟨q, hq, e⟩ := ih h'
      exact ⟨q, List.mem_cons_of_mem _ hq, e⟩
theorem own_fit {vs : List S56} {n : List ByteArray} (hv : VarsFit vs) (hn : n.length < 4398046511104) (hs : ∀ x ∈ n, x.size ≤ 140737488351232) : VarsFit (ownOf vs n) ∧ (ownOf vs n).length ≤ n.length := by
  have hl : (ownOf vs n).length ≤ n.length := by unfold ownOf; exact List.length_filterMap_le _ _
  refine ⟨⟨by omega, fun y hy => ?_⟩, hl⟩
  unfold ownOf at hy
  obtain ⟨x, hx, e⟩ := List.mem_filterMap.1 hy
  rw [Option.map_eq_some_iff] at e
  obtain ⟨v, e1, rfl⟩ := e
  obtain ⟨m, hm, rfl⟩ := getV_mem vs e1
  exact ⟨hs x hx, (hv.each m hm).2⟩
section
variable {l0 : List S45} {l1 l2 : List S56} {n : List ByteArray} (h0 : StepsFit l0) (hv : VarsFit l1) (hm : VarsFit l2) (hc : okC l0 = true) (hn : n = G.namesB (expr_Names.prs l0)) (hsum : l2.length + n.length < 4398046511104)
include h0 hv hm hc hn hsum
theorem names_end {k : Nat} (hk : 40 ≤ k) (i : Nat) (hi : l2.length ≤ i) : shuttlelaw12_RuleNames.l1 (k + 1) l0 l2 (sayB l0 l1) n (ownOf l1 n) (othersOf n l2) i = some true := by
  have aw : (shuttlelaw12_awake.f k).bind (fun t => some t) = some true := by rw [awake_true k hk]; rfl
  have hns : ∀ x ∈ n, x.size ≤ 140737488351232 := by
    intro x hx
    rw [hn] at hx
    obtain ⟨y, hy, _, rfl⟩ := (mem_names hc).1 hx
    exact h0.each y hy
  obtain ⟨hof, hol⟩ := own_fit hv (n := n) (by omega) hns
  have hotl : (othersOf n l2).length ≤ l2.length := by unfold othersOf; exact List.length_filter_le _ _
  have hbf : VarsFit (othersOf n l2 ++ ownOf l1 n) := ⟨by rw [List.length_append]; omega, fun x hx => by
    rcases List.mem_append.1 hx with h | h
    · exact hm.each x (List.mem_filter.1 h).1
    · exact hof.each x h⟩
  have mem : ∀ x ∈ l0, G.namedB x.f0 = true → x.f1 ∈ n := fun x hx hb => by rw [hn]; exact (mem_names hc).2 ⟨x, hx, hb, rfl⟩
  have e1 : sayB l0 (ownOf l1 n) = sayB l0 l1 := say_of_names h0 hof hv hc fun x hx hb => getV_own n (mem x hx hb)
  have e2 : sayB l0 (othersOf n l2 ++ ownOf l1 n) = sayB l0 l1 := say_of_names h0 hbf hv hc fun x hx hb => (getV_others (mem x hx hb) _ l2).trans (getV_own n (mem x hx hb))
  unfold shuttlelaw12_RuleNames.l1
  rw [if_neg (by omega), copySteps_eq h0.len, Option.bind_some, eval_eq h0 hof hc, Option.bind_some, Option.bind_some, if_pos (by omega), eval_eq h0 hbf hc, Option.bind_some]
  dsimp only
  rw [if_pos rfl, if_pos rfl, e1, e2, if_pos (beq_self_eq_true _), if_pos (beq_self_eq_true _)]
  exact aw
omit h0 hv hm hc hn hsum in
theorem names_in (hnl : n.length ≤ 5864062014805) (hml : l2.length < 4398046511104) (s : Bool) (own oth : List S56) (hol : oth.length < 4398046511104) (i : Nat) (hi : i < l2.length) : ∀ (d k j : Nat), n.length - j = d → j ≤ n.length →
    shuttlelaw12_RuleNames.l2 (k + d + 1) l0 l2 s n own oth i (inN (n.take j) l2[i]) j = shuttlelaw12_RuleNames.l1 k l0 l2 s n own (oth ++ if inN n l2[i] then [] else [l2[i]]) ((i + 1 : Nat) : Int) := by
  intro d
  have er : rd_T56 l2 (i : Int) = l2[i] := by unfold rd_T56; simp [hi]
  induction d with
  | zero =>
    intro k j hd hj
    obtain rfl : j = n.length := by omega
    unfold shuttlelaw12_RuleNames.l2
    rw [if_neg (by omega), List.take_length, wrap_up hi (by omega)]
    cases hb : inN n l2[i]
    · rw [if_neg (by decide), if_pos (by omega), if_pos (by omega), if_pos hol, er]
      rfl
    · rw [if_pos rfl, if_pos rfl, List.append_nil, Nat.add_zero]
  | succ d ih =>
    intro k j hd hj
    have hj' : j < n.length := by omega
    have en : rdOf ByteArray.empty n (j : Int) = n[j] := by unfold rdOf; simp [hj']
    have et : inN (n.take (j + 1)) l2[i] = (inN (n.take j) l2[i] || n[j].toList == l2[i].f0.toList) := by
      unfold inN
      rw [List.take_add_one, List.getElem?_eq_getElem hj', List.any_append]
      simp
    have step := ih k (j + 1) (by omega) (by omega)
    unfold shuttlelaw12_RuleNames.l2
    rw [if_pos (by omega), wrap_up hj' (by omega)]
    cases hb : inN (n.take j) l2[i]
    · rw [if_neg (by decide), if_pos (by omega), if_pos (by omega), if_pos (by omega), en, er]
      rw [hb, Bool.false_or] at et
      rw [← et]
      exact step
    · rw [if_pos rfl]
      rw [hb, Bool.true_or] at et
      rw [et] at step
      exact step
theorem names_mid : ∀ (d k i : Nat), l2.length - i = d → i ≤ l2.length → 41 ≤ k → shuttlelaw12_RuleNames.l1 (k + d * (n.length + 2)) l0 l2 (sayB l0 l1) n (ownOf l1 n) (othersOf n (l2.take i)) i = some true := by
  intro d
  induction d with
  | zero =>
    intro k i hd hi hk
    obtain ⟨k, rfl⟩ : ∃ m, k = m + 1 := ⟨k - 1, by omega⟩
    obtain rfl : i = l2.length := by omega
    rw [Nat.zero_mul, Nat.add_zero, List.take_length]
    exact names_end h0 hv hm hc hn hsum (by omega) _ (Nat.le_refl _)
  | succ d ih =>
    intro k i hd hi hk
    have hi' : i < l2.length := by omega
    have hotl : (othersOf n (l2.take i)).length ≤ i := by
      unfold othersOf
      refine Nat.le_trans (List.length_filter_le _ _) ?_
      rw [List.length_take]
      omega
    have eo : othersOf n (l2.take (i + 1)) = othersOf n (l2.take i) ++ if inN n l2[i] then [] else [l2[i]] := by
      unfold othersOf
      rw [List.take_add_one, List.getElem?_eq_getElem hi', List.filter_append]
      congr 1
      cases hb : inN n l2[i] <;> simp [hb]
    have hmul : k + (d + 1) * (n.length + 2) = (k + d * (n.length + 2)) + n.length + 1 + 1 := by rw [Nat.add_mul]; omega
    rw [hmul]
    unfold shuttlelaw12_RuleNames.l1
    rw [if_pos (by omega)]
    have hin := names_in (l0 := l0) (l2 := l2) (n := n) (by omega) (by omega) (sayB l0 l1) (ownOf l1 n) (othersOf n (l2.take i)) (by omega) i hi' n.length (k + d * (n.length + 2)) 0 (by omega) (Nat.zero_le _)
    have hf : inN (n.take 0) l2[i] = false := rfl
    rw [hf] at hin
    refine hin.trans ?_
    rw [← eo]
    exact ih k (i + 1) (by omega) (by omega) hk
theorem names_top : ∀ (d k i : Nat), n.length - i = d → i ≤ n.length → 41 + l1.length + l2.length * (n.length + 2) < k → shuttlelaw12_RuleNames.l0 (k + d) l0 l1 l2 (sayB l0 l1) n (ownOf l1 (n.take i)) i = some true := by
  intro d
  induction d with
  | zero =>
    intro k i hd hi hk
    obtain rfl : i = n.length := by omega
    obtain ⟨k, rfl⟩ : ∃ m, k = m + 1 := ⟨k - 1, by omega⟩
    obtain ⟨j, rfl⟩ : ∃ j, k = j + l2.length * (n.length + 2) := ⟨k - l2.length * (n.length + 2), by omega⟩
    rw [Nat.add_zero, List.take_length]
    unfold shuttlelaw12_RuleNames.l0
    rw [if_neg (by omega)]
    have := names_mid h0 hv hm hc hn hsum l2.length j 0 (by omega) (Nat.zero_le _) (by omega)
    rw [List.take_zero] at this
    exact this
  | succ d ih =>
    intro k i hd hi hk
    have hi' : i < n.length := by omega
    have en : rdOf ByteArray.empty n (i : Int) = n[i] := by unfold rdOf; simp [hi']
    have hol : (ownOf l1 (n.take i)).length ≤ i := by
      unfold ownOf
      refine Nat.le_trans (List.length_filterMap_le _ _) ?_
      rw [List.length_take]
      omega
    have step := ih k (i + 1) (by omega) (by omega) hk
    rw [show k + (d + 1) = (k + d) + 1 by omega]
    unfold shuttlelaw12_RuleNames.l0
    rw [if_pos (by omega), if_pos (by omega), en, refGet_eq _ hv.len (by omega), Option.bind_some, wrap_up hi' (by omega)]
    dsimp only
    have eo : ownOf l1 (n.take (i + 1)) = ownOf l1 (n.take i) ++ (match G.getV (rule_say.vrs l1) n[i] with | some v => [(⟨n[i], v⟩ : S56)] | none => []) := by
      unfold ownOf
      rw [List.take_add_one, List.getElem?_eq_getElem hi', List.filterMap_append]
      congr 1
      cases hg : G.getV (rule_say.vrs l1) n[i] <;> simp [hg]
    cases hg : G.getV (rule_say.vrs l1) n[i] with
    | none =>
      have hb : G.getB (rule_say.vrs l1) n[i] = false := by unfold G.getB; rw [hg]; rfl
      rw [hg, List.append_nil] at eo
      rw [hb, if_neg (by decide)]
      rw [eo] at step
      exact step
    | some v =>
      have hb : G.getB (rule_say.vrs l1) n[i] = true := by unfold G.getB; rw [hg]; rfl
      have ht : G.getT (rule_say.vrs l1) n[i] = v := by unfold G.getT; rw [hg]; rfl
      rw [hg] at eo
      rw [hb, if_pos rfl, if_pos (by omega), ht]
      rw [eo] at step
      exact step
end
theorem ruleNames_eq {l0 : List S45} {l1 l2 : List S56} (h0 : StepsFit l0) (hv : VarsFit l1) (hm : VarsFit l2) (hs : l2.length ≤ 2000000) : ∃ k, shuttlelaw12_RuleNames.f k l0 l1 l2 = some true := by
  obtain ⟨n, hn⟩ : ∃ n, n = G.namesB (expr_Names.prs l0) := ⟨_, rfl⟩
  by_cases hc : okC l0 = true
  · have hl := names_len l0
    rw [← hn] at hl
    have h1024 : l0.length ≤ 1024 := by have := G.check_len hc; simpa [expr_Check.prs] using this
    refine ⟨(42 + l1.length + l2.length * (n.length + 2)) + n.length, ?_⟩
    unfold shuttlelaw12_RuleNames.f
    rw [copySteps_eq h0.len, Option.bind_some, copyVars_eq hv.len, Option.bind_some, eval_eq h0 hv hc, Option.bind_some]
    dsimp only
    rw [if_pos rfl, Option.bind_some, names_eq h0, Option.bind_some, ← hn]
    exact names_top h0 hv hm hc hn (by omega) n.length _ 0 (by omega) (Nat.zero_le _) (by omega)
  · have e1 : rule_Eval.f l0 l1 = some (false, 120) := by
      unfold rule_Eval.f
      rw [check_eq h0, Option.bind_some, if_neg hc]
    refine ⟨40, ?_⟩
    unfold shuttlelaw12_RuleNames.f
    rw [copySteps_eq h0.len, Option.bind_some, copyVars_eq hv.len, Option.bind_some, e1, Option.bind_some]
    dsimp only
    rw [if_neg (by decide), awake40]
    rfl
end Go.Proofs.Ytinhlaiogkmkfaa.PA
