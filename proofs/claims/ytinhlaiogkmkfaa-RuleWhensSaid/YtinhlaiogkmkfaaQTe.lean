/- RuleWhens: the reference's When is the program's; and the law, walked over the contracts of what it calls. -/
import Derived.Test.YtinhlaiogkmkfaaQLh
import Derived.Test.YtinhlaiogkmkfaaQLw
namespace Go.Proofs.Ytinhlaiogkmkfaa.PA
open Go.RowKit Go.Proofs.YtinhlaiogkmkfaaW.PrintWords Go.Proofs.YtinhlaiogkmkfaaW.PrintLast Go.Proofs.YtinhlaiogkmkfaaW.PrintMore Go.Proofs.Ytinhlaiogkmkfaa.G
attribute [local simp, local go_sem] alloc_drewN setCell_drewN
set_option linter.unusedVariables false
set_option linter.unusedSimpArgs false
set_option maxRecDepth 100000
theorem refOne_eq (n : Int) : shuttleref12_WhenIs.f n = some (isOne n) := by
  unfold shuttleref12_WhenIs.f isOne
  by_cases h : 0 ≤ n
  · rw [if_pos h, decide_eq_true h]; rfl
  · rw [if_neg h, decide_eq_false h]; rfl
section
variable {l : List S48} {vs : List S56} {M : Nat} (h : RulesFit l) (hv : VarsFit vs) (hM : ∀ x ∈ l, x.f0.length ≤ M)
include h hv hM
theorem rwhen2 (hf : l.all fine = true) (d : Nat) : ∀ (k i : Nat), l.length - i = d → i ≤ l.length → d + M + vs.length + 110 < k → shuttleref12_When.l2 k l vs i = some (firstOf vs (l.drop i), 0) := by
  have hl := h.len
  induction d with
  | zero =>
    intro k i hd hi hk
    obtain ⟨k, rfl⟩ : ∃ m, k = m + 1 := ⟨k - 1, by omega⟩
    obtain rfl : i = l.length := by omega
    unfold shuttleref12_When.l2
    rw [if_neg (by omega), List.drop_length]
    rfl
  | succ d ih =>
    intro k i hd hi hk
    obtain ⟨k, rfl⟩ : ∃ m, k = m + 1 := ⟨k - 1, by omega⟩
    have hi' : i < l.length := by omega
    have hm := hM _ (List.getElem_mem hi')
    unfold shuttleref12_When.l2
    rw [if_pos (by omega), if_pos (by omega), rd48 hi', List.drop_eq_getElem_cons hi']
    have hfi : fine l[i] = true := List.all_eq_true.1 hf _ (List.getElem_mem _)
    unfold firstOf
    by_cases h0 : l[i].f0 = []
    · rw [if_pos (by rw [h0]; rfl), if_pos (by rw [h0]; rfl), if_pos (by unfold holds; rw [h0]; rfl)]
    · have h1 : l[i].f0.isEmpty = false := by rw [Bool.eq_false_iff]; intro e; exact h0 (List.isEmpty_iff.1 e)
      have hc : okC l[i].f0 = true := by unfold fine at hfi; rw [h1, Bool.false_or] at hfi; exact hfi
      have hh : holds vs l[i] = sayB l[i].f0 vs := by unfold holds; rw [h1, Bool.false_or]
      rw [if_neg (by intro e; exact h0 (List.length_eq_zero_iff.1 (by omega))), refEval_eq (h.each _ (List.getElem_mem _)) hv (by omega), Option.bind_some, if_pos hc, hh]
      by_cases h2 : sayB l[i].f0 vs = true
      · rw [if_pos h2, if_pos h2]
      · rw [if_neg h2, if_neg h2, wrap_up hi' (by omega)]
        exact ih k (i + 1) (by omega) (by omega) (by omega)
theorem rwhen1 (base : Int) (hf : l.all fine = true) (d : Nat) : ∀ (k i : Nat) (b : Bool), l.length - i = d → i ≤ l.length → d + l.length + M + vs.length + 120 < k →
    shuttleref12_When.l1 k l base vs b i = some (if !b && (l.drop i).all (fun r => isOne r.f1) then (if l.length = 0 then (base, 0) else (firstOf vs l, 0)) else (0, 121)) := by
  have hl := h.len
  induction d with
  | zero =>
    intro k i b hd hi hk
    obtain ⟨k, rfl⟩ : ∃ m, k = m + 1 := ⟨k - 1, by omega⟩
    obtain rfl : i = l.length := by omega
    unfold shuttleref12_When.l1
    rw [if_neg (by omega), List.drop_length]
    cases b
    · rw [if_neg (show ¬ (false = true) by decide)]
      by_cases h0 : l.length = 0
      · rw [if_pos (by omega)]
        simp [h0]
      · rw [if_neg (by omega), show (0 : Int) = ((0 : Nat) : Int) from rfl, rwhen2 h hv hM hf l.length k 0 (by omega) (by omega) (by omega)]
        simp [h0]
    · rfl
  | succ d ih =>
    intro k i b hd hi hk
    obtain ⟨k, rfl⟩ : ∃ m, k = m + 1 := ⟨k - 1, by omega⟩
    have hi' : i < l.length := by omega
    unfold shuttleref12_When.l1
    rw [if_pos (by omega), rd48 hi', List.drop_eq_getElem_cons hi', List.all_cons, wrap_up hi' (by omega)]
    cases b
    · rw [if_neg (by decide), if_pos (by omega), refOne_eq, Option.bind_some, ih k (i + 1) _ (by omega) (by omega) (by omega), Bool.not_not]
      rfl
    · rw [if_pos rfl, ih k (i + 1) true (by omega) (by omega) (by omega)]
      rfl
theorem rwhen0 (base : Int) (d : Nat) : ∀ (k i : Nat), l.length - i = d → i ≤ l.length → d + l.length + l.length + M + vs.length + 130 < k → (l.take i).all fine = true →
    shuttleref12_When.l0 k l base vs i = some (whenR l base vs) := by
  have hl := h.len
  induction d with
  | zero =>
    intro k i hd hi hk ht
    obtain ⟨k, rfl⟩ : ∃ m, k = m + 2 := ⟨k - 2, by omega⟩
    obtain rfl : i = l.length := by omega
    rw [List.take_length] at ht
    unfold shuttleref12_When.l0
    rw [if_neg (by omega), refOne_eq, Option.bind_some]
    have hj : ∀ b, shuttleref12_When.j1 (k + 1) l base vs b = some (if !b && l.all (fun r => isOne r.f1) then (if l.length = 0 then (base, 0) else (firstOf vs l, 0)) else (0, 121)) := by
      intro b
      unfold shuttleref12_When.j1
      show shuttleref12_When.l1 k l base vs b ((0 : Nat) : Int) = _
      rw [rwhen1 h hv hM base ht l.length k 0 b (by omega) (by omega) (by omega)]
      rfl
    unfold whenR
    rw [if_pos ht]
    by_cases hb : isOne base = true
    · rw [if_pos hb, hj, hb, Bool.true_and]
      have e : (!decide ((l.length : Int) > 16)) = decide (l.length ≤ 16) := by
        by_cases c : l.length ≤ 16
        · rw [decide_eq_true c, decide_eq_false (by omega)]; rfl
        · rw [decide_eq_false c, decide_eq_true (by omega)]; rfl
      rw [e]
    · rw [if_neg hb, hj, Bool.eq_false_iff.2 hb]
      rfl
  | succ d ih =>
    intro k i hd hi hk ht
    obtain ⟨k, rfl⟩ : ∃ m, k = m + 1 := ⟨k - 1, by omega⟩
    have hi' : i < l.length := by omega
    have hm := hM _ (List.getElem_mem hi')
    unfold shuttleref12_When.l0
    rw [if_pos (by omega), if_pos (by omega), rd48 hi', wrap_up hi' (by omega)]
    have nx : fine l[i] = true → shuttleref12_When.l0 k l base vs ((i + 1 : Nat) : Int) = some (whenR l base vs) := by
      intro hf
      refine ih k (i + 1) (by omega) (by omega) (by omega) ?_
      rw [List.take_add_one, List.getElem?_eq_getElem hi', List.all_append, ht]
      simpa using hf
    by_cases h0 : l[i].f0 = []
    · rw [if_neg (by rw [h0]; simp), nx (by unfold fine; rw [h0]; rfl)]
    · have h1 : l[i].f0.isEmpty = false := by rw [Bool.eq_false_iff]; intro e; exact h0 (List.isEmpty_iff.1 e)
      have hh : fine l[i] = okC l[i].f0 := by unfold fine; rw [h1, Bool.false_or]
      rw [if_pos (by have := List.length_pos_iff.2 h0; omega), refCheck_eq (h.each _ (List.getElem_mem _)) (by omega), Option.bind_some]
      by_cases hc : okC l[i].f0 = true
      · rw [if_pos hc, nx (hh.trans hc)]
      · rw [if_neg hc]
        unfold whenR
        rw [if_neg]
        intro ha
        exact hc (hh ▸ List.all_eq_true.1 ha _ (List.getElem_mem hi'))
theorem refWhen_eq (base : Int) {k : Nat} (hk : 3 * l.length + M + vs.length + 140 < k) : shuttleref12_When.f k l base vs = some (whenR l base vs) := by
  unfold shuttleref12_When.f
  exact rwhen0 h hv hM base l.length k 0 (by omega) (by omega) (by omega) rfl
omit hv in
theorem sameR_loop : ∀ (d k i : Nat), l.length - i = d → i ≤ l.length → d + M < k → shuttlelaw0_SameRules.l0 k l l i = some true := by
  have hl := h.len
  intro d
  induction d with
  | zero =>
    intro k i hd hi hk
    obtain ⟨k, rfl⟩ : ∃ m, k = m + 1 := ⟨k - 1, by omega⟩
    unfold shuttlelaw0_SameRules.l0
    rw [if_neg (by omega)]
  | succ d ih =>
    intro k i hd hi hk
    obtain ⟨k, rfl⟩ : ∃ m, k = m + 1 := ⟨k - 1, by omega⟩
    have hi' : i < l.length := by omega
    have hm := hM _ (List.getElem_mem hi')
    have hs := (h.each _ (List.getElem_mem hi')).len
    unfold shuttlelaw0_SameRules.l0
    rw [if_pos (by omega), if_pos (by omega), if_pos (by omega), if_pos rfl, rd48 hi', same_eq (by omega) (by omega), Option.bind_some, if_pos rfl, wrap_up hi' (by omega)]
    exact ih k (i + 1) (by omega) (by omega) (by omega)
omit hv in
theorem sameR_eq {k : Nat} (hk : l.length + M < k) : shuttlelaw0_SameRules.f k l l = some true := by
  unfold shuttlelaw0_SameRules.f
  rw [if_pos rfl]
  exact sameR_loop h hM l.length k 0 (by omega) (by omega) hk
end
theorem rules_bound (l : List S48) : ∃ M, ∀ x ∈ l, x.f0.length ≤ M := by
  induction l with
  | nil => exact ⟨0, fun x h => by cases h⟩
  | cons y r ih =>
    obtain ⟨M, hM⟩ := ih
    refine ⟨M + y.f0.length, fun x hx => ?_⟩
    rcases List.mem_cons.1 hx with rfl | h
    · omega
    · have := hM x h; omega
set_option maxHeartbeats 8000000 in
theorem ruleWhens0 (k : Nat) (A0 : Option Addr) (c0 : Nat) (l0 : List S48) (a1 : Int) (A2 : Option Addr) (c2 : Nat) (l2 : List S56) (r : Bool) (hT : Aside0 (r = true)) (w : World) (hr0 : Kd.C k48 w A0 l0.length l0) (hc0 : l0.length ≤ c0) (hr2 : Kd.C k56 w A2 l2.length l2) (hc2 : l2.length ≤ c2)
    (h : RulesFit l0 ∧ (VarsFit l2 ∧ l2.length < 4398046511102)) :
    Calls Try.prog 5 #[.slice A0 l0.length c0, .int .i64 a1, .slice A2 l2.length c2] w fun e w' => e = .returned (.bool true) ∧ Below w.heap.size w w' := by
  obtain ⟨h0, h2, hl2⟩ := h
  clear hT
  obtain ⟨M, hM⟩ := rules_bound l0
  obtain ⟨⟨x, n⟩, hxn⟩ : ∃ r : Int × Int, whenR l0 a1 l2 = r := ⟨_, rfl⟩
  have HE1 := Lib.hid (show shuttleref12_When.f (3 * l0.length + M + l2.length + 141) l0 a1 l2 = some (x, n) from by rw [refWhen_eq h0 h2 hM a1 (by omega), hxn])
  have HE2 := Lib.hid (show rule_When.f (3 * l0.length + 5) l0 a1 l2 = some (x, n) from by rw [when_eq a1 h0 h2 (by omega), hxn])
  have HCR := Lib.hid (copyRules_eq h0 (k := l0.length + 1) (by omega))
  have HSR := Lib.hid (sameR_eq h0 hM (k := l0.length + M + 1) (by omega))
  have HR0 := Lib.hid hr0
  have HR2 := Lib.hid hr2
  have q1 : (x == x) = true := beq_self_eq_true x
  have q2 : (n == n) = true := beq_self_eq_true n
  clear hr0 hr2 h0 h2 hxn hM
  go_enter Try.func5, Try.ntmps5
  go_wp2_with fail
  refine (shuttleref12_When.calls _ A0 c0 l0 a1 A2 c2 l2 x n w HR0.out hc0 HR2.out hc2 HE1.out).mono ?_
  rintro e w1 ⟨rfl, hb1⟩
  have B1 := Lib.hid hb1
  clear hb1
  go_wp2_with fail
  refine (shuttlelaw0_CopyRules.calls _ A0 c0 l0 l0 w1 (Kd.C_below HR0.out B1.out) hc0 HCR.out).mono ?_
  rintro e w2 ⟨v0, rfl, hS, hb2⟩
  obtain ⟨Ar, cr, rfl, hcr, hCr⟩ := Kd.R_reads (Kd.S_R hS)
  have B2 := Lib.hid (below_more B1.out hb2)
  have CR := Lib.hid hCr
  clear hb2 hS hCr
  go_wp2_with fail
  refine (lendVars0 A2 c2 l2 w2 (Kd.C_below HR2.out B2.out) hc2 hl2).mono ?_
  rintro e w3 ⟨gv, cv, rfl, hcv, hLV, hb3⟩
  have B3 := Lib.hid (below_no B2.out hb3)
  have CR3 := Lib.hid (Kd.C_below CR.out hb3.belowNo)
  have LV := Lib.hid hLV
  have hgv := hLV.block
  have hgv1 : w.heap.size ≤ gv := Nat.le_trans B2.out.size hgv.1
  clear hb3 hLV hgv CR
  have CV := Lib.hid (C_own56 LV.out (by simp; omega)).1
  have hcv' : l2.length ≤ cv := by omega
  go_wp2_with fail
  refine (rule_When.calls _ Ar cr l0 a1 (some ⟨gv, 0, none⟩) cv l2 x n w3 CR3.out hcr CV.out hcv' HE2.out).mono ?_
  rintro e w4 ⟨rfl, hb4⟩
  have B4 := Lib.hid (below_more B3.out hb4)
  have CR4 := Lib.hid (Kd.C_below CR3.out hb4)
  have LV4 := Lib.hid (LV.out.new (But.of_below hb4))
  clear hb4 LV CR3 CV
  go_wp2_with fail
  refine (shuttlelaw0_SameRules.calls _ Ar cr l0 A0 c0 l0 true w4 CR4.out hcr (Kd.C_below HR0.out B4.out) hc0 HSR.out).mono ?_
  rintro e w5 ⟨rfl, hd5⟩
  have hb5 := drawn_but hd5
  have B5 := Lib.hid (below_no B4.out hb5)
  have LV5 := Lib.hid (LV4.out.new hb5)
  clear hb5 hd5 LV4
  go_wp2_with fail
  refine (keptVars0 w2.heap.size gv cv A2 c2 l2 w5 LV5.out (Kd.C_below HR2.out B5.out) hc2 hl2).mono ?_
  rintro e w6 ⟨rfl, hb6⟩
  have B6 := Lib.hid (below_one B5.out hb6 hgv1)
  clear hb6 LV5
  go_wp2_with fail
  refine (K.awake0 w6).mono ?_
  rintro e w7 ⟨rfl, hb7⟩
  have B7 := Lib.hid (below_more B6.out hb7)
  clear hb7
  go_wp2_with fail
  go_ret
  exact ⟨rfl, B7.out⟩
end Go.Proofs.Ytinhlaiogkmkfaa.PA
