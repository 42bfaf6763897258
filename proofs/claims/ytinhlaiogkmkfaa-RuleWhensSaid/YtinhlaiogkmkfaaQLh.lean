/- Texts of this claim, joined: words and laws that the others use. -/
import Derived.Test.YtinhlaiogkmkfaaQNa
import Derived.Test.YtinhlaiogkmkfaaQLd
import Derived.Test.YtinhlaiogkmkfaaQPAx9
import Derived.Test.YtinhlaiogkmkfaaQAk
section
/- The reference's Eval says what the program's says. -/
namespace Go.Proofs.Ytinhlaiogkmkfaa.PA
open Go.RowKit Go.Proofs.YtinhlaiogkmkfaaW.PrintWords Go.Proofs.YtinhlaiogkmkfaaW.PrintLast Go.Proofs.YtinhlaiogkmkfaaW.PrintMore
set_option linter.unusedVariables false
set_option linter.unusedSimpArgs false
def toV (y : S59) : G.Vl := ⟨y.f0, y.f1⟩
theorem getT_bd {vs : List S56} (hv : VarsFit vs) (n : ByteArray) : (G.getT (rule_say.vrs vs) n).size ≤ 140737488351232 := by
  unfold G.getT
  cases hg : G.getV (rule_say.vrs vs) n with
  | none => exact Nat.zero_le _
  | some v =>
    have mem : ∀ l : List S56, G.getV (rule_say.vrs l) n = some v → ∃ m ∈ l, m.f1 = v := by
      intro l
      induction l with
      | nil => intro h; cases h
      | cons m r ih =>
        intro h
        have h' : (if m.f0.toList == n.toList then some m.f1 else G.getV (rule_say.vrs r) n) = some v := h
        by_cases c : (m.f0.toList == n.toList) = true
        · rw [if_pos c] at h'
          exact ⟨m, List.mem_cons_self .., Option.some.inj h'⟩
        · rw [if_neg c] at h'
          obtain ⟨q, hq, e⟩ := ih h'
          exact ⟨q, List.mem_cons_of_mem _ hq, e⟩
    obtain ⟨m, hm, rfl⟩ := mem vs hg
    exact (hv.each m hm).2
theorem like_eq {a b : ByteArray} (ha : a.size ≤ 140737488351232) (hb : b.size ≤ 140737488351232) : shuttleref12_like.f a b = some (G.matchRes b a).1 := by
  unfold shuttleref12_like.f shuttleref6_Match.f
  rw [if_pos (by omega), if_pos (by omega)]
  rfl
theorem pop_snoc (s : List S59) (y : S59) : G.pop1 ((s ++ [y]).map toV) = some (s.map toV, toV y) := by
  rw [List.map_append]
  exact G.pop1_snoc _ _
/-- One step over both stacks. -/
theorem refStep_eq {vs : List S56} (hv : VarsFit vs) {x : S45} (hx : x.f1.size ≤ 140737488351232) {c : List S45} {st : List S59} (hok : okR x c = true) (hl : st.length = c.length) (hs : ∀ y ∈ st, y.f0.size ≤ 140737488351232) {k : Nat} (hk : vs.length < k) :
    ∃ r : S59, shuttleref12_step.f k x.f0 x.f1 (st.drop (st.length - (arR x.f0).toNat)) vs = some (r.f0, r.f1) ∧ G.stepV (rule_say.vrs vs) x.f0 x.f1 (st.map toV) = some ((st.take (st.length - (arR x.f0).toNat) ++ [r]).map toV) ∧ r.f0.size ≤ 140737488351232 := by
  obtain ⟨h0, h1, _, _⟩ := okR_parts hok
  have e0 : (⟨#[]⟩ : ByteArray).size ≤ 140737488351232 := by decide
  have snoc : ∀ (s : List S59) (r : S59), (s ++ [r]).map toV = s.map toV ++ [toV r] := fun s r => by simp
  rcases arR_cases x.f0 with ⟨ar, hk5⟩ | ⟨ar, hk5⟩ | ⟨ar, hk5⟩ | ⟨ar, _⟩
  · rw [ar, show ((0 : Int).toNat) = 0 from rfl, Nat.sub_zero, List.take_length]
    unfold shuttleref12_step.f G.stepV
    by_cases c1 : x.f0 = 1
    · rw [if_pos c1, if_pos c1]
      exact ⟨⟨x.f1, false⟩, rfl, by rw [snoc]; rfl, hx⟩
    rw [if_neg c1, if_neg c1]
    by_cases c2 : x.f0 = 2
    · rw [if_pos c2, if_pos c2, refGet_eq _ hv.len hk]
      exact ⟨⟨G.getT (rule_say.vrs vs) x.f1, false⟩, rfl, by rw [snoc]; rfl, getT_bd hv _⟩
    rw [if_neg c2, if_neg c2]
    by_cases c3 : x.f0 = 3
    · rw [if_pos c3, if_pos c3, refGet_eq _ hv.len hk]
      exact ⟨⟨⟨#[]⟩, G.getB (rule_say.vrs vs) x.f1⟩, rfl, by rw [snoc]; rfl, e0⟩
    rw [if_neg c3, if_neg c3]
    by_cases c4 : x.f0 = 4
    · rw [if_pos c4, if_pos c4]
      exact ⟨⟨⟨#[]⟩, true⟩, rfl, by rw [snoc]; rfl, e0⟩
    have c5 : x.f0 = 5 := by omega
    rw [if_neg c4, if_neg c4, if_pos c5, if_neg (by omega), if_neg (by omega), if_neg (by omega), if_neg (by omega), if_neg (by omega), if_neg (by omega), if_neg (by omega), if_neg (by omega)]
    exact ⟨⟨⟨#[]⟩, false⟩, rfl, by rw [snoc]; rfl, e0⟩
  · have e1 : (arR x.f0).toNat = 1 := by rw [ar]; rfl
    obtain ⟨s, y, rfl, hsl⟩ := G.snoc_of (l := st) (n := st.length - 1) (by omega)
    have ed : (s ++ [y]).drop ((s ++ [y]).length - 1) = [y] := by rw [List.length_append, List.length_singleton, Nat.add_sub_cancel, List.drop_left]
    have et : (s ++ [y]).take ((s ++ [y]).length - 1) = s := by rw [List.length_append, List.length_singleton, Nat.add_sub_cancel, List.take_left]
    rw [e1, ed, et]
    have l1 : ∀ f : G.Vl → Bool, G.lay1 ((s ++ [y]).map toV) f = some ((s ++ [(⟨⟨#[]⟩, f (toV y)⟩ : S59)]).map toV) := fun f => by
      unfold G.lay1
      rw [pop_snoc, snoc]
      rfl
    clear hx hok h0 h1 ar e1
    obtain ⟨kk, tx⟩ := x
    dsimp only at hk5 ⊢
    rcases hk5 with rfl | rfl
    · have f1 : shuttleref12_step.f k 6 tx [y] vs = some ((⟨#[]⟩ : ByteArray), y.f0.toList != []) := rfl
      have f2 : ∀ z, G.stepV (rule_say.vrs vs) 6 tx z = G.lay1 z (fun a => !a.text.toList.isEmpty) := fun z => rfl
      rw [f1, f2, l1]
      refine ⟨⟨⟨#[]⟩, _⟩, rfl, ?_, e0⟩
      show some ((s ++ [(⟨⟨#[]⟩, !y.f0.toList.isEmpty⟩ : S59)]).map toV) = some ((s ++ [(⟨⟨#[]⟩, y.f0.toList != []⟩ : S59)]).map toV)
      rw [bneNil]
    · have f1 : shuttleref12_step.f k 11 tx [y] vs = some ((⟨#[]⟩ : ByteArray), !y.f1) := rfl
      have f2 : ∀ z, G.stepV (rule_say.vrs vs) 11 tx z = G.lay1 z (fun a => !a.ok) := fun z => rfl
      rw [f1, f2, l1]
      exact ⟨⟨⟨#[]⟩, _⟩, rfl, rfl, e0⟩
  · have e1 : (arR x.f0).toNat = 2 := by rw [ar]; rfl
    obtain ⟨s', z, rfl, hsl⟩ := G.snoc_of (l := st) (n := st.length - 1) (by omega)
    rw [List.length_append, List.length_singleton] at hl
    obtain ⟨s, y, rfl, hsl2⟩ := G.snoc_of (l := s') (n := s'.length - 1) (by omega)
    have en : (s ++ [y] ++ [z]).length - 2 = s.length := by simp
    have ed : (s ++ [y] ++ [z]).drop s.length = [y, z] := by rw [List.append_assoc, List.drop_left]; rfl
    have et : (s ++ [y] ++ [z]).take s.length = s := by rw [List.append_assoc, List.take_left]
    have sy := hs y (by simp)
    have sz := hs z (by simp)
    rw [e1, en, ed, et]
    have l2 : ∀ f : G.Vl → G.Vl → Bool, G.lay2 ((s ++ [y] ++ [z]).map toV) f = some ((s ++ [(⟨⟨#[]⟩, f (toV y) (toV z)⟩ : S59)]).map toV) := fun f => by
      unfold G.lay2
      rw [pop_snoc, Option.bind_some]
      dsimp only
      rw [pop_snoc, snoc]
      rfl
    have hlk := like_eq sy sz
    clear hx hok h0 h1 ar e1 sy sz
    obtain ⟨kk, tx⟩ := x
    dsimp only at hk5 ⊢
    rcases hk5 with rfl | rfl | rfl | rfl | rfl | rfl
    · have f1 : shuttleref12_step.f k 7 tx [y, z] vs = some ((⟨#[]⟩ : ByteArray), y.f0.toList == z.f0.toList) := rfl
      have f2 : ∀ w, G.stepV (rule_say.vrs vs) 7 tx w = G.lay2 w (fun a b => a.text.toList == b.text.toList) := fun w => rfl
      rw [f1, f2, l2]
      exact ⟨⟨⟨#[]⟩, _⟩, rfl, rfl, e0⟩
    · have f1 : shuttleref12_step.f k 8 tx [y, z] vs = some ((⟨#[]⟩ : ByteArray), y.f0.toList != z.f0.toList) := rfl
      have f2 : ∀ w, G.stepV (rule_say.vrs vs) 8 tx w = G.lay2 w (fun a b => !(a.text.toList == b.text.toList)) := fun w => rfl
      rw [f1, f2, l2]
      exact ⟨⟨⟨#[]⟩, _⟩, rfl, rfl, e0⟩
    · have f1 : shuttleref12_step.f k 9 tx [y, z] vs = (shuttleref12_like.f y.f0 z.f0).bind fun t => some ((⟨#[]⟩ : ByteArray), t) := rfl
      have f2 : ∀ w, G.stepV (rule_say.vrs vs) 9 tx w = G.lay2 w (fun a b => (G.matchRes b.text a.text).1) := fun w => rfl
      rw [f1, hlk, f2, l2]
      exact ⟨⟨⟨#[]⟩, _⟩, rfl, rfl, e0⟩
    · have f1 : shuttleref12_step.f k 10 tx [y, z] vs = (shuttleref12_like.f y.f0 z.f0).bind fun t => some ((⟨#[]⟩ : ByteArray), !t) := rfl
      have f2 : ∀ w, G.stepV (rule_say.vrs vs) 10 tx w = G.lay2 w (fun a b => !(G.matchRes b.text a.text).1) := fun w => rfl
      rw [f1, hlk, f2, l2]
      exact ⟨⟨⟨#[]⟩, _⟩, rfl, rfl, e0⟩
    · have f1 : shuttleref12_step.f k 12 tx [y, z] vs = if y.f1 = true then some ((⟨#[]⟩ : ByteArray), z.f1) else some ((⟨#[]⟩ : ByteArray), false) := rfl
      have f2 : ∀ w, G.stepV (rule_say.vrs vs) 12 tx w = G.lay2 w (fun a b => a.ok && b.ok) := fun w => rfl
      rw [f1, f2, l2]
      refine ⟨⟨⟨#[]⟩, y.f1 && z.f1⟩, ?_, rfl, e0⟩
      cases y.f1 <;> rfl
    · have f1 : shuttleref12_step.f k 13 tx [y, z] vs = if y.f1 = true then some ((⟨#[]⟩ : ByteArray), true) else some ((⟨#[]⟩ : ByteArray), z.f1) := rfl
      have f2 : ∀ w, G.stepV (rule_say.vrs vs) 13 tx w = G.lay2 w (fun a b => a.ok || b.ok) := fun w => rfl
      rw [f1, f2, l2]
      refine ⟨⟨⟨#[]⟩, y.f1 || z.f1⟩, ?_, rfl, e0⟩
      cases y.f1 <;> rfl
  · omega
theorem refEval_loop {l : List S45} {vs : List S56} (hv : VarsFit vs) (hl : l.length ≤ 1024) (hs : ∀ x ∈ l, x.f1.size ≤ 140737488351232) : ∀ (d k i : Nat) (c : List S45) (st : List S59) (q : G.Prt), l.length - i = d → i ≤ l.length → d + vs.length + 10 < k → st.length ≤ i → st.length = c.length → (∀ y ∈ st, y.f0.size ≤ 140737488351232) →
    G.runC (expr_Check.prs (l.drop i)) (c.map toP) = some [q] → ∃ v, G.runV (rule_say.vrs vs) (expr_Check.prs (l.drop i)) (st.map toV) = some [v] ∧ shuttleref12_Eval.l0 k l vs st i = some (v.ok, 0) := by
  intro d
  induction d with
  | zero =>
    intro k i c st q hd hi hk hst hlc hss hr
    obtain ⟨k, rfl⟩ : ∃ m, k = m + 1 := ⟨k - 1, by omega⟩
    obtain rfl : i = l.length := by omega
    rw [List.drop_length] at hr ⊢
    have hr' : some (c.map toP) = some [q] := hr
    have hc1 : c.length = 1 := by
      have := congrArg List.length (Option.some.inj hr')
      simpa using this
    obtain ⟨y, rfl⟩ := List.length_eq_one_iff.1 (hlc.trans hc1)
    refine ⟨toV y, rfl, ?_⟩
    unfold shuttleref12_Eval.l0
    rw [if_neg (by omega), if_pos (by simp)]
    rfl
  | succ d ih =>
    intro k i c st q hd hi hk hst hlc hss hr
    obtain ⟨k, rfl⟩ : ∃ m, k = m + 1 := ⟨k - 1, by omega⟩
    have hi' : i < l.length := by omega
    obtain ⟨x, hx⟩ : ∃ x, l[i] = x := ⟨_, rfl⟩
    have hxs := hs _ (List.getElem_mem hi')
    rw [prs_drop l i hi', hx] at hr ⊢
    rw [hx] at hxs
    have hr' : (G.stepC (c.map toP) x.f0 x.f1).bind (G.runC (expr_Check.prs (l.drop (i + 1)))) = some [q] := hr
    rw [stepC_ref] at hr'
    cases hok : okR x c with
    | false => rw [hok, if_neg (by decide)] at hr'; cases hr'
    | true =>
      rw [hok, if_pos rfl, Option.bind_some] at hr'
      obtain ⟨h0, h1, _, _⟩ := okR_parts hok
      obtain ⟨r, e1, e2, e3⟩ := refStep_eq hv hxs hok hlc hss (k := k) (by omega)
      have ew := wrap_sub h0 (show arR x.f0 ≤ (st.length : Int) by omega) (by omega)
      obtain ⟨v, g1, g2⟩ := ih k (i + 1) _ (st.take (st.length - (arR x.f0).toNat) ++ [r]) q (by omega) (by omega) (by omega) (by rw [List.length_append, List.length_take, List.length_singleton]; omega)
        (by rw [List.length_append, List.length_append, List.length_take, List.length_take, hlc]; rfl)
        (fun y hy => by
          rcases List.mem_append.1 hy with h | h
          · exact hss y (List.mem_of_mem_take h)
          · rw [List.mem_singleton.1 h]; exact e3) hr'
      refine ⟨v, ?_, ?_⟩
      · show (G.stepV (rule_say.vrs vs) x.f0 x.f1 (st.map toV)).bind _ = _
        rw [e2]
        exact g1
      · unfold shuttleref12_Eval.l0
        rw [if_pos (by omega), if_pos (by omega), rd45 hi', hx, refArity_eq _ (by omega), Option.bind_some, ew, if_pos (by omega), if_pos (by omega), Int.toNat_natCast, e1, Option.bind_some, Option.bind_some, if_pos (by rw [List.length_take]; omega), wrap_up hi' (by omega)]
        exact g2
theorem refEval_eq {l : List S45} {vs : List S56} (h : StepsFit l) (hv : VarsFit vs) {k : Nat} (hk : l.length + vs.length + 100 < k) : shuttleref12_Eval.f k l vs = some (if okC l = true then (sayB l vs, 0) else (false, 120)) := by
  unfold shuttleref12_Eval.f
  rw [refCheck_eq h (by omega), Option.bind_some]
  by_cases hc : okC l = true
  · rw [if_pos hc, if_pos hc]
    have h1024 : l.length ≤ 1024 := by have := G.check_len hc; simpa [expr_Check.prs] using this
    obtain ⟨q, hq, _⟩ := G.checkB_run hc
    obtain ⟨v, g1, g2⟩ := refEval_loop hv h1024 h.each l.length k 0 [] [] q (by omega) (Nat.zero_le _) (by omega) (Nat.zero_le _) rfl (fun y hy => by cases hy) (by rw [List.drop_zero]; exact hq)
    rw [List.drop_zero] at g1
    have e := sayV_eq h hv hc
    unfold G.sayV at e
    have g1' : G.runV (rule_say.vrs vs) (expr_Check.prs l) [] = some [v] := g1
    rw [g1', Option.bind_some, show [v] = [] ++ [v] from rfl, G.pop1_snoc] at e
    have e' : v.ok = sayB l vs := by injection e
    rw [← e']
    exact g2
  · rw [if_neg hc, if_neg hc]
end Go.Proofs.Ytinhlaiogkmkfaa.PA
end
section
/- RuleEvals: the law, walked over the contracts of what it calls. -/
namespace Go.Proofs.Ytinhlaiogkmkfaa.PA
open Go.RowKit Go.Proofs.YtinhlaiogkmkfaaW.PrintWords Go.Proofs.YtinhlaiogkmkfaaW.PrintLast Go.Proofs.YtinhlaiogkmkfaaW.PrintMore Go.Proofs.Ytinhlaiogkmkfaa.G
attribute [local simp, local go_sem] alloc_drewN setCell_drewN
set_option linter.unusedVariables false
set_option linter.unusedSimpArgs false
set_option maxRecDepth 100000
theorem LentS.new {w w' : World} {base g c : Nat} {l : List S45} (h : LentS w base l g c) (hb : But No w w') : LentS w' base l g c := El.Own.new h hb
theorem LentV.new {w w' : World} {base g c : Nat} {l : List S56} (h : LentV w base l g c) (hb : But No w w') : LentV w' base l g c := El.Own.new h hb
/-- Another block is written. -/
theorem LentV.far {w w' : World} {base g c gs : Nat} {l : List S56} (h : LentV w base l g c) (hb : But (One gs) w w') (hne : g ≠ gs) : LentV w' base l g c :=
  own_at h fun k hk => by
    have hg : k = g := by
      have : some g = some k := hk
      exact (Option.some.inj this).symm
    subst hg
    exact hb.block k (h.lt k rfl).2 hne
/-- Below a mark nothing is written. -/
theorem below_one {w W W' : World} {g : Nat} (h : Below w.heap.size w W) (hb : But (One g) W W') (hg : w.heap.size ≤ g) : Below w.heap.size w W' :=
  h.trans ⟨hb.os, hb.tape, hb.output, hb.size, fun k hk => hb.block k (Nat.lt_of_lt_of_le hk h.size) (fun e => by have e' : k = g := e; omega)⟩
theorem below_no {w W W' : World} (h : Below w.heap.size w W) (hb : But No W W') : Below w.heap.size w W' :=
  h.trans ⟨hb.os, hb.tape, hb.output, hb.size, fun k hk => hb.block k (Nat.lt_of_lt_of_le hk h.size) (fun e => e)⟩
theorem below_more {w W W' : World} (h : Below w.heap.size w W) (hb : Below W.heap.size W W') : Below w.heap.size w W' := h.trans (hb.mono h.size)
set_option maxHeartbeats 8000000 in
theorem ruleEvals0 (k : Nat) (A0 : Option Addr) (c0 : Nat) (l0 : List S45) (A1 : Option Addr) (c1 : Nat) (l1 : List S56) (r : Bool) (hT : Aside0 (r = true)) (w : World) (hr0 : Kd.C k45 w A0 l0.length l0) (hc0 : l0.length ≤ c0) (hr1 : Kd.C k56 w A1 l1.length l1) (hc1 : l1.length ≤ c1)
    (h : (StepsFit l0 ∧ l0.length < 5864062014803) ∧ (VarsFit l1 ∧ l1.length < 4398046511102)) :
    Calls Try.prog 3 #[.slice A0 l0.length c0, .slice A1 l1.length c1] w fun e w' => e = .returned (.bool true) ∧ Below w.heap.size w w' := by
  obtain ⟨⟨h0, hl0⟩, h1, hl1⟩ := h
  clear hT
  obtain ⟨⟨b, n⟩, hbn⟩ : ∃ r : Bool × Int, (if okC l0 = true then (sayB l0 l1, 0) else (false, 120)) = r := ⟨_, rfl⟩
  have HE1 := Lib.hid (show shuttleref12_Eval.f (l0.length + l1.length + 101) l0 l1 = some (b, n) from by rw [refEval_eq h0 h1 (by omega), hbn])
  have HE2 := Lib.hid (show rule_Eval.f l0 l1 = some (b, n) from by
    rw [← hbn]
    by_cases hc : okC l0 = true
    · rw [if_pos hc, eval_eq h0 h1 hc]
    · rw [if_neg hc]
      unfold rule_Eval.f
      rw [check_eq h0, Option.bind_some, if_neg hc])
  have HR0 := Lib.hid hr0
  have HR1 := Lib.hid hr1
  have HF0 := Lib.hid h0
  have HF1 := Lib.hid h1
  have q1 : (b == b) = true := beq_self_eq_true b
  have q2 : (n == n) = true := beq_self_eq_true n
  clear hr0 hr1 h0 h1 hbn
  go_enter Try.func3, Try.ntmps3
  go_wp2_with fail
  refine (shuttleref12_Eval.calls _ A0 c0 l0 A1 c1 l1 b n w HR0.out hc0 HR1.out hc1 HE1.out).mono ?_
  rintro e w1 ⟨rfl, hb1⟩
  have B1 := Lib.hid hb1
  clear hb1
  go_wp2_with fail
  refine (lendSteps0 A0 c0 l0 w1 (Kd.C_below HR0.out B1.out) hc0 hl0).mono ?_
  rintro e w2 ⟨gs, cs, rfl, hcs, hLS, hb2⟩
  have B2 := Lib.hid (below_no B1.out hb2)
  have LS := Lib.hid hLS
  have hgs := hLS.block
  have hgs1 : w.heap.size ≤ gs := Nat.le_trans B1.out.size hgs.1
  have hgs2 := hgs.2.1
  clear hb2 hLS hgs
  go_wp2_with fail
  refine (lendVars0 A1 c1 l1 w2 (Kd.C_below HR1.out B2.out) hc1 hl1).mono ?_
  rintro e w3 ⟨gv, cv, rfl, hcv, hLV, hb3⟩
  have B3 := Lib.hid (below_no B2.out hb3)
  have LS3 := Lib.hid (LS.out.new hb3)
  have LV := Lib.hid hLV
  have hgv := hLV.block
  have hgv1 : w.heap.size ≤ gv := Nat.le_trans B2.out.size hgv.1
  have hne : gv ≠ gs := by omega
  clear hb3 hLV hgv LS hgs2
  have CS := Lib.hid (C_own45 LS3.out (by simp; omega)).1
  have CV := Lib.hid (C_own56 LV.out (by simp; omega)).1
  have hcs' : l0.length ≤ cs := by omega
  have hcv' : l1.length ≤ cv := by omega
  go_wp2_with fail
  refine (rule_Eval.calls (some ⟨gs, 0, none⟩) cs l0 (some ⟨gv, 0, none⟩) cv l1 b n w3 CS.out hcs' CV.out hcv' HE2.out).mono ?_
  rintro e w4 ⟨rfl, hb4⟩
  have B4 := Lib.hid (below_more B3.out hb4)
  have LS4 := Lib.hid (LS3.out.new (But.of_below hb4))
  have LV4 := Lib.hid (LV.out.new (But.of_below hb4))
  clear hb4 LS3 LV CS CV
  go_wp2_with fail
  refine (keptSteps0 w1.heap.size gs cs A0 c0 l0 w4 LS4.out (Kd.C_below HR0.out B4.out) hc0 hl0).mono ?_
  rintro e w5 ⟨rfl, hb5⟩
  have B5 := Lib.hid (below_one B4.out hb5 hgs1)
  have LV5 := Lib.hid (LV4.out.far hb5 hne)
  clear hb5 LS4 LV4
  go_wp2_with fail
  refine (keptVars0 w2.heap.size gv cv A1 c1 l1 w5 LV5.out (Kd.C_below HR1.out B5.out) hc1 hl1).mono ?_
  rintro e w6 ⟨rfl, hb6⟩
  have B6 := Lib.hid (below_one B5.out hb6 hgv1)
  clear hb6 LV5
  go_wp2_with fail
  refine (K.awake0 w6).mono ?_
  rintro e w7 ⟨rfl, hb7⟩
  have B7 := Lib.hid (below_more B6.out hb7)
  clear hb7
  go_wp2_with fail
  go_ret
  exact ⟨rfl, B7.out⟩
end Go.Proofs.Ytinhlaiogkmkfaa.PA
end
