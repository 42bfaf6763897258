/- Texts of this claim, joined: words and laws that the others use. -/
import Derived.Test.YtinhlaiogkmkfaaQPAx9
section
/- A folded part says what the part says: a step over two parts. -/
namespace Go.Proofs.Ytinhlaiogkmkfaa.PA
open Go.RowKit Go.Proofs.YtinhlaiogkmkfaaW.PrintWords Go.Proofs.YtinhlaiogkmkfaaW.PrintLast Go.Proofs.YtinhlaiogkmkfaaW.PrintMore
set_option linter.unusedVariables false
/-- What a step says of two values. -/
def val2 (k : Int) (a b : G.Vl) : Bool :=
  if k = 7 then a.text.toList == b.text.toList else if k = 8 then !(a.text.toList == b.text.toList) else if k = 9 then (G.matchRes b.text a.text).1 else if k = 10 then !(G.matchRes b.text a.text).1
  else if k = 12 then a.ok && b.ok else a.ok || b.ok
theorem stepV2 (vs : List (ByteArray × ByteArray)) {k : Int} (hk : k = 7 ∨ k = 8 ∨ k = 9 ∨ k = 10 ∨ k = 12 ∨ k = 13) (tx : ByteArray) (a b : G.Vl) : G.stepV vs k tx [a, b] = some [⟨G.mt, val2 k a b⟩] := by
  rcases hk with rfl | rfl | rfl | rfl | rfl | rfl <;> rfl
theorem val2_eq {k : Int} {a b a' b' : G.Vl} (hk : k = 7 ∨ k = 8 ∨ k = 9 ∨ k = 10 ∨ k = 12 ∨ k = 13) (h1 : 12 ≤ k → a'.ok = a.ok ∧ b'.ok = b.ok) (h2 : k < 12 → a'.text = a.text ∧ b'.text = b.text) : val2 k a' b' = val2 k a b := by
  unfold val2
  by_cases c : 12 ≤ k
  · have n7 : ¬ k = 7 := by omega
    have n8 : ¬ k = 8 := by omega
    have n9 : ¬ k = 9 := by omega
    have n10 : ¬ k = 10 := by omega
    rw [if_neg n7, if_neg n7, if_neg n8, if_neg n8, if_neg n9, if_neg n9, if_neg n10, if_neg n10, (h1 c).1, (h1 c).2]
  · rw [(h2 (by omega)).1, (h2 (by omega)).2]
    by_cases c7 : k = 7
    · rw [if_pos c7, if_pos c7]
    rw [if_neg c7, if_neg c7]
    by_cases c8 : k = 8
    · rw [if_pos c8, if_pos c8]
    rw [if_neg c8, if_neg c8]
    by_cases c9 : k = 9
    · rw [if_pos c9, if_pos c9]
    rw [if_neg c9, if_neg c9, if_pos (by omega), if_pos (by omega)]
theorem Pt.over2 {vs all : List S56} {x : S45} {q r : G.Prt} {v u : G.Vl} {a b : List S45} (hk : x.f0 = 7 ∨ x.f0 = 8 ∨ x.f0 = 9 ∨ x.f0 = 10 ∨ x.f0 = 12 ∨ x.f0 = 13) (ha : Pt vs all q v a) (hb : Pt vs all r u b)
    (hq : q.truth = decide (12 ≤ x.f0)) (hr : r.truth = decide (12 ≤ x.f0)) (he : x.f1.toList.isEmpty = true) (hl : x.f0 = 9 ∨ x.f0 = 10 → r.lit = true ∧ (G.checkRes r.text).2 = 0) (nf : Nf vs (a ++ b ++ [x])) :
    Pt vs all G.tru ⟨G.mt, val2 x.f0 v u⟩ (a ++ b ++ [x]) := by
  obtain ⟨q', h1, h2⟩ := ha.run
  obtain ⟨v', h3, h4, h5⟩ := ha.val
  obtain ⟨r', g1, g2⟩ := hb.run
  obtain ⟨u', g3, g4, g5⟩ := hb.val
  refine ⟨nf, ⟨G.tru, ?_, rfl⟩, fun h => (by cases h), ⟨⟨G.mt, val2 x.f0 v' u'⟩, ?_, fun _ => ?_, fun h => (by cases h)⟩, fun h => (by cases h)⟩
  · rw [prs_snoc, prs_app, G.runC_app, G.runC_app, h1, Option.bind_some]
    rw [show G.runC (expr_Check.prs b) [q'] = some [q', r'] from G.runC_frame [q'] _ g1, Option.bind_some]
    show (G.stepC [q', r'] x.f0 x.f1).bind (fun z => some z) = _
    rw [G.mk2 hk (h2.trans hq) (g2.trans hr) he (fun c => ?_)]
    · rfl
    · obtain ⟨l1, l2⟩ := hl c
      have e := hb.lit l1
      subst e
      have hs := run_text g1
      have z : (G.stepC [] 1 r.text).bind (fun z => some z) = some [r'] := g1
      have z1 : G.stepC [] 1 r.text = some [⟨false, true, r.text⟩] := by unfold G.stepC; simp [hs]
      rw [z1] at z
      have z2 : r' = ⟨false, true, r.text⟩ := by simpa using z.symm
      rw [z2]
      exact ⟨rfl, l2⟩
  · rw [prs_snoc, prs_app, G.runV_app, G.runV_app, h3, Option.bind_some]
    rw [show G.runV (rule_say.vrs all) (expr_Check.prs b) [v'] = some [v', u'] from G.runV_frame _ [v'] _ g3, Option.bind_some]
    show (G.stepV (rule_say.vrs all) x.f0 x.f1 [v', u']).bind (fun z => some z) = _
    rw [stepV2 _ hk]
    rfl
  · refine val2_eq hk (fun c => ?_) (fun c => ?_)
    · exact ⟨h4 (hq.trans (decide_eq_true c)), g4 (hr.trans (decide_eq_true c))⟩
    · exact ⟨h5 (hq.trans (decide_eq_false (by omega))), g5 (hr.trans (decide_eq_false (by omega)))⟩
theorem Pt.isTruth {vs all : List S56} {q : G.Prt} {v : G.Vl} {p : List S45} (h : Pt vs all q v p) (ht : q.truth = true) {k : Int} (hk : k = 4 ∨ k = 5) (hp : isP p k = true) : v.ok = decide (k = 4) := by
  obtain ⟨s, rfl⟩ := isP_one hp
  obtain ⟨v', h3, h4, _⟩ := h.val
  rw [← h4 ht]
  rcases hk with rfl | rfl
  · have z : some [(⟨G.mt, true⟩ : G.Vl)] = some [v'] := h3
    have z' : v' = ⟨G.mt, true⟩ := by simpa using z.symm
    rw [z']; rfl
  · have z : some [(⟨G.mt, false⟩ : G.Vl)] = some [v'] := h3
    have z' : v' = ⟨G.mt, false⟩ := by simpa using z.symm
    rw [z']; rfl
/-- A truth that says the same is as good. -/
theorem Pt.same {vs all : List S56} {q : G.Prt} {v v2 : G.Vl} {p : List S45} (h : Pt vs all q v p) (ht : q.truth = true) (e : v.ok = v2.ok) : Pt vs all G.tru v2 p := by
  obtain ⟨q', r1, r2⟩ := h.run
  obtain ⟨v', r3, r4, _⟩ := h.val
  exact ⟨h.nf, ⟨q', r1, r2.trans ht⟩, fun h => (by cases h), ⟨v', r3, fun _ => (r4 ht).trans e, fun h => (by cases h)⟩, fun h => (by cases h)⟩
theorem Pt.step2 {vs all : List S56} {x : S45} {q r : G.Prt} {v u : G.Vl} {a b : List S45} (hk : x.f0 = 7 ∨ x.f0 = 8 ∨ x.f0 = 9 ∨ x.f0 = 10 ∨ x.f0 = 12 ∨ x.f0 = 13) (ha : Pt vs all q v a) (hb : Pt vs all r u b)
    (hq : q.truth = decide (12 ≤ x.f0)) (hr : r.truth = decide (12 ≤ x.f0)) (he : x.f1.toList.isEmpty = true) (ht : x.f1.size ≤ 140737488351232) (hl : x.f0 = 9 ∨ x.f0 = 10 → r.lit = true ∧ (G.checkRes r.text).2 = 0) :
    Pt vs all G.tru ⟨G.mt, val2 x.f0 v u⟩ (foldXp vs x [a, b]) := by
  have ar : arityB x.f0 = 2 := by rcases hk with c | c | c | c | c | c <;> rw [c] <;> rfl
  have nf : Nf vs (foldXp vs x [a, b]) := Nf.step x (by rw [ar]; rfl) (fun z hz => by simp at hz; rcases hz with rfl | rfl; exact ha.nf; exact hb.nf)
  have ov : foldXp vs x [a, b] = a ++ b ++ [x] → Pt vs all G.tru ⟨G.mt, val2 x.f0 v u⟩ (foldXp vs x [a, b]) := fun e => by
    rw [e] at nf ⊢
    exact ha.over2 hk hb hq hr he hl nf
  by_cases c12 : x.f0 = 12 ∨ x.f0 = 13
  · have e : foldXp vs x [a, b] = logicP x.f0 x.f1 a b := by unfold foldXp; rw [if_neg (by omega), if_pos c12]
    have hq' : q.truth = true := hq.trans (decide_eq_true (by omega))
    have hr' : r.truth = true := hr.trans (decide_eq_true (by omega))
    rcases c12 with c | c
    · have ev : val2 x.f0 v u = (v.ok && u.ok) := by rw [c]; rfl
      have el : logicP x.f0 x.f1 a b = if isP a 5 || isP b 5 then truthP false else if isP a 4 then b else if isP b 4 then a else a ++ b ++ [x] := by unfold logicP; dsimp only; rw [if_neg (show ¬ x.f0 = 13 by omega), if_neg (show ¬ x.f0 = 13 by omega)]; rfl
      by_cases h1 : (isP a 5 || isP b 5) = true
      · rw [if_pos h1] at el
        rw [e, el, ev]
        have : (v.ok && u.ok) = false := by
          rw [Bool.or_eq_true] at h1
          rcases h1 with h1 | h1
          · rw [ha.isTruth hq' (.inr rfl) h1]; rfl
          · rw [hb.isTruth hr' (.inr rfl) h1]; simp
        rw [this]
        exact Pt.truth vs all false
      · rw [if_neg h1] at el
        by_cases h2 : isP a 4 = true
        · rw [if_pos h2] at el
          rw [e, el, ev]
          exact hb.same hr' (by rw [ha.isTruth hq' (.inl rfl) h2]; rfl)
        · rw [if_neg h2] at el
          by_cases h3 : isP b 4 = true
          · rw [if_pos h3] at el
            rw [e, el, ev]
            exact ha.same hq' (by rw [hb.isTruth hr' (.inl rfl) h3]; simp)
          · rw [if_neg h3] at el
            exact ov (e.trans el)
    · have ev : val2 x.f0 v u = (v.ok || u.ok) := by rw [c]; rfl
      have el : logicP x.f0 x.f1 a b = if isP a 4 || isP b 4 then truthP true else if isP a 5 then b else if isP b 5 then a else a ++ b ++ [x] := by unfold logicP; dsimp only; rw [if_pos c, if_pos c]; rfl
      by_cases h1 : (isP a 4 || isP b 4) = true
      · rw [if_pos h1] at el
        rw [e, el, ev]
        have : (v.ok || u.ok) = true := by
          rw [Bool.or_eq_true] at h1
          rcases h1 with h1 | h1
          · rw [ha.isTruth hq' (.inl rfl) h1]; rfl
          · rw [hb.isTruth hr' (.inl rfl) h1]; simp
        rw [this]
        exact Pt.truth vs all true
      · rw [if_neg h1] at el
        by_cases h2 : isP a 5 = true
        · rw [if_pos h2] at el
          rw [e, el, ev]
          exact hb.same hr' (by rw [ha.isTruth hq' (.inr rfl) h2]; rfl)
        · rw [if_neg h2] at el
          by_cases h3 : isP b 5 = true
          · rw [if_pos h3] at el
            rw [e, el, ev]
            exact ha.same hq' (by rw [hb.isTruth hr' (.inr rfl) h3]; simp)
          · rw [if_neg h3] at el
            exact ov (e.trans el)
  · have e : foldXp vs x [a, b] = textsP x.f0 x.f1 [⟨a⟩, ⟨b⟩] := by unfold foldXp; rw [if_neg (by omega), if_neg c12, if_pos (by omega)]; rfl
    have hq' : q.truth = false := hq.trans (decide_eq_false (by omega))
    have hr' : r.truth = false := hr.trans (decide_eq_false (by omega))
    by_cases h1 : ([⟨a⟩, ⟨b⟩] : List S66).all (fun p => isP p.f0 1) = true
    · have h1' := h1
      simp only [List.all_cons, List.all_nil, Bool.and_true, Bool.and_eq_true] at h1'
      obtain ⟨s, hp⟩ := isP_one h1'.1
      obtain ⟨z, hz⟩ := isP_one h1'.2
      subst hp hz
      obtain ⟨hs, hvt⟩ := ha.text hq'
      obtain ⟨hs2, hut⟩ := hb.text hr'
      have eb : sayB ([⟨1, s⟩, ⟨1, z⟩] ++ [x]) [] = val2 x.f0 v u := by
        refine sayB_of (fit_of (by simp) (fun y hy => ?_) nil_fit) ?_
        · simp at hy
          rcases hy with rfl | rfl | rfl
          · exact Nat.le_trans hs (by decide)
          · exact Nat.le_trans hs2 (by decide)
          · exact ht
        · show G.sayV _ [(1, s), (1, z), (x.f0, x.f1)] = _
          have w : val2 x.f0 ⟨s, false⟩ ⟨z, false⟩ = val2 x.f0 v u := val2_eq hk (fun c => by omega) (fun _ => ⟨hvt.symm, hut.symm⟩)
          rw [← w]
          show ((G.stepV _ x.f0 x.f1 [⟨s, false⟩, ⟨z, false⟩]).bind fun y => some y).bind _ = _
          rw [stepV2 _ hk]
          rfl
      have e3 : textsP x.f0 x.f1 [⟨[⟨1, s⟩]⟩, ⟨[⟨1, z⟩]⟩] = truthP (val2 x.f0 v u) := by
        unfold textsP
        rw [if_pos h1]
        exact congrArg truthP eb
      rw [e, e3]
      exact Pt.truth vs all _
    · by_cases h2 : sameVar [⟨a⟩, ⟨b⟩] = true
      · have e3 : textsP x.f0 x.f1 [⟨a⟩, ⟨b⟩] = truthP (x.f0 == 7) := by unfold textsP; rw [if_neg h1, if_pos h2]
        have h2' : (isP a 2 && isP b 2 && (a.map fun s => s.f1.toList) == (b.map fun s => s.f1.toList)) = true := h2
        rw [Bool.and_eq_true, Bool.and_eq_true] at h2'
        obtain ⟨s, hp⟩ := isP_one h2'.1.1
        obtain ⟨z, hz⟩ := isP_one h2'.1.2
        subst hp hz
        have esz : s.toList = z.toList := by simpa using h2'.2
        have hx : x.f0 = 7 ∨ x.f0 = 8 := by
          by_cases c9 : x.f0 = 9 ∨ x.f0 = 10
          · have := hb.lit (hl c9).1
            simp at this
          · omega
        obtain ⟨v', h3, _, h5⟩ := ha.val
        obtain ⟨u', g3, _, g5⟩ := hb.val
        have z1 : some [(⟨G.getT (rule_say.vrs all) s, false⟩ : G.Vl)] = some [v'] := h3
        have z2 : some [(⟨G.getT (rule_say.vrs all) z, false⟩ : G.Vl)] = some [u'] := g3
        have z1' : v' = ⟨G.getT (rule_say.vrs all) s, false⟩ := by simpa using z1.symm
        have z2' : u' = ⟨G.getT (rule_say.vrs all) z, false⟩ := by simpa using z2.symm
        have eg : ∀ l : List (ByteArray × ByteArray), G.getV l s = G.getV l z := by
          intro l
          induction l with
          | nil => rfl
          | cons y t ih => unfold G.getV; rw [esz, ih]
        have et : v.text = u.text := by
          rw [← h5 hq', ← g5 hr', z1', z2']
          show (G.getV _ s).getD _ = (G.getV _ z).getD _
          rw [eg]
        have ev : val2 x.f0 v u = (x.f0 == 7) := by
          unfold val2
          rw [et]
          rcases hx with c | c <;> rw [c] <;> simp
        rw [e, e3, ev]
        exact Pt.truth vs all _
      · exact ov (e.trans (by unfold textsP; rw [if_neg h1, if_neg h2]; simp))
end Go.Proofs.Ytinhlaiogkmkfaa.PA
end
section
/- Stacks of marks, values and folded parts, side by side; one step on all three. -/
namespace Go.Proofs.Ytinhlaiogkmkfaa.PA
open Go.RowKit Go.Proofs.YtinhlaiogkmkfaaW.PrintWords Go.Proofs.YtinhlaiogkmkfaaW.PrintLast Go.Proofs.YtinhlaiogkmkfaaW.PrintMore
set_option linter.unusedVariables false
inductive St (vs all : List S56) : List G.Prt → List G.Vl → List (List S45) → Prop where
  | nil : St vs all [] [] []
  | snoc {C : List G.Prt} {V : List G.Vl} {P : List (List S45)} (q : G.Prt) (v : G.Vl) (p : List S45) : St vs all C V P → Pt vs all q v p → St vs all (C ++ [q]) (V ++ [v]) (P ++ [p])
theorem St.unsnoc {vs all : List S56} {C : List G.Prt} {q : G.Prt} {V : List G.Vl} {P : List (List S45)} (h : St vs all (C ++ [q]) V P) : ∃ V0 v P0 p, V = V0 ++ [v] ∧ P = P0 ++ [p] ∧ St vs all C V0 P0 ∧ Pt vs all q v p := by
  generalize hC : C ++ [q] = D at h
  cases h with
  | nil => simp at hC
  | snoc q' v p h1 h2 =>
    obtain ⟨rfl, e⟩ := List.append_inj' hC rfl
    simp at e
    subst e
    exact ⟨_, v, _, p, rfl, rfl, h1, h2⟩
theorem popC_has {st s l : List G.Prt} {k : Nat} {t : Bool} (h : G.popC st k t = some (s, l)) : st = s ++ l ∧ l.length = k := ⟨(G.popC_parts h).1, (G.popC_parts h).2.1⟩
/-- What a step of arity n finds on the stack. -/
theorem split_of {C C' : List G.Prt} {k : Int} {tx : ByteArray} (h : G.stepC C k tx = some C') :
    (arityB k = 0 ∧ ∃ q, C' = C ++ [q] ∧ G.stepC [] k tx = some [q]) ∨ ((k = 6 ∨ k = 11) ∧ ∃ C0 q, C = C0 ++ [q]) ∨ ((k = 7 ∨ k = 8 ∨ k = 9 ∨ k = 10 ∨ k = 12 ∨ k = 13) ∧ ∃ C0 a b, C = C0 ++ [a, b]) := by
  have one : ∀ {t : Bool} (ok : List G.Prt → Bool), (match G.popC C 1 t with | some (s, l) => if ok l && tx.toList.isEmpty then some (s ++ [G.tru]) else none | none => none) = some C' → ∃ C0 q, C = C0 ++ [q] := by
    intro t ok e
    split at e
    · rename_i s l hp
      obtain ⟨e1, e2⟩ := popC_has hp
      match l, e2 with
      | [q], _ => exact ⟨s, q, e1⟩
    · cases e
  have two : ∀ {t : Bool} (ok : List G.Prt → Bool), (match G.popC C 2 t with | some (s, l) => if ok l && tx.toList.isEmpty then some (s ++ [G.tru]) else none | none => none) = some C' → ∃ C0 a b, C = C0 ++ [a, b] := by
    intro t ok e
    split at e
    · rename_i s l hp
      obtain ⟨e1, e2⟩ := popC_has hp
      match l, e2 with
      | [a, b], _ => exact ⟨s, a, b, e1⟩
    · cases e
  have push : ∀ {b : Prop} [Decidable b] {q : G.Prt}, (if b then some (C ++ [q]) else none) = some C' → C' = C ++ [q] ∧ b := by
    intro b _ q e
    split at e
    · rename_i hb
      injection e with e
      exact ⟨e.symm, hb⟩
    · cases e
  unfold G.stepC at h
  simp only [] at h
  by_cases c1 : k = 1
  · rw [if_pos c1] at h
    obtain ⟨e, hb⟩ := push h
    exact .inl ⟨by rw [c1]; rfl, _, e, by rw [c1]; unfold G.stepC; simp [hb]⟩
  rw [if_neg c1] at h
  by_cases c2 : k = 2
  · rw [if_pos c2] at h
    obtain ⟨e, hb⟩ := push h
    exact .inl ⟨by rw [c2]; rfl, _, e, by rw [c2]; unfold G.stepC; simp [hb]⟩
  rw [if_neg c2] at h
  by_cases c3 : k = 3
  · rw [if_pos c3] at h
    obtain ⟨e, hb⟩ := push h
    exact .inl ⟨by rw [c3]; rfl, _, e, by rw [c3]; unfold G.stepC; simp [hb]⟩
  rw [if_neg c3] at h
  by_cases c4 : k = 4 ∨ k = 5
  · rw [if_pos c4] at h
    obtain ⟨e, hb⟩ := push h
    have hb' : tx.toList = [] := List.isEmpty_iff.1 hb
    rcases c4 with c | c
    · exact .inl ⟨by rw [c]; rfl, _, e, by rw [c]; unfold G.stepC; simp [hb']⟩
    · exact .inl ⟨by rw [c]; rfl, _, e, by rw [c]; unfold G.stepC; simp [hb']⟩
  rw [if_neg c4] at h
  by_cases c6 : k = 6
  · rw [if_pos c6] at h
    exact .inr (.inl ⟨.inl c6, one (fun _ => true) h⟩)
  rw [if_neg c6] at h
  by_cases c7 : k = 7 ∨ k = 8
  · rw [if_pos c7] at h
    exact .inr (.inr ⟨by omega, two (fun _ => true) h⟩)
  rw [if_neg c7] at h
  by_cases c9 : k = 9 ∨ k = 10
  · rw [if_pos c9] at h
    exact .inr (.inr ⟨by omega, two (fun l => match l[1]? with | some q => q.lit && (G.checkRes q.text).2 == 0 | none => false) h⟩)
  rw [if_neg c9] at h
  by_cases c11 : k = 11
  · rw [if_pos c11] at h
    exact .inr (.inl ⟨.inr c11, one (fun _ => true) h⟩)
  rw [if_neg c11] at h
  by_cases c12 : k = 12 ∨ k = 13
  · rw [if_pos c12] at h
    exact .inr (.inr ⟨by omega, two (fun _ => true) h⟩)
  rw [if_neg c12] at h
  cases h
/-- One step on all three stacks. -/
theorem St.step {vs more : List S56} {x : S45} {C C' : List G.Prt} {V : List G.Vl} {P : List (List S45)} (h : St vs (vs ++ more) C V P) (ht : x.f1.size ≤ 140737488351232) (hc : G.stepC C x.f0 x.f1 = some C') :
    ∃ V', G.stepV (rule_say.vrs (vs ++ more)) x.f0 x.f1 V = some V' ∧ St vs (vs ++ more) C' V' (foldSp vs x P) ∧ arityB x.f0 ≤ P.length := by
  rcases split_of hc with ⟨ar, q, rfl, hq⟩ | ⟨hk, C0, q, rfl⟩ | ⟨hk, C0, a, b, rfl⟩
  · obtain ⟨sv, e1, e2⟩ := G.step_on (rule_say.vrs (vs ++ more)) (sv := []) hq rfl
    obtain ⟨s, v, rfl, hs⟩ := G.snoc_of (n := 0) e2
    obtain rfl : s = [] := List.length_eq_zero_iff.1 hs
    have e3 := G.stepV_frame (st0 := V) e1
    rw [List.append_nil] at e3
    have e4 := foldSp_on vs x P [] (by rw [ar]; rfl)
    rw [List.append_nil, foldXp_named vs x [] ar] at e4
    refine ⟨V ++ [v], e3, ?_, by omega⟩
    rw [e4]
    exact St.snoc q v _ h (Pt.named ar hq e1)
  · obtain ⟨V0, v, P0, p, rfl, rfl, h0, hp⟩ := h.unsnoc
    obtain ⟨rfl, hq, he⟩ := G.inv1 hk hc
    have ar : arityB x.f0 = 1 := by rcases hk with c | c <;> rw [c] <;> rfl
    obtain ⟨v2, hv⟩ : ∃ v2, G.stepV (rule_say.vrs (vs ++ more)) x.f0 x.f1 [v] = some [v2] := by
      rcases hk with c | c
      · rw [c]; exact ⟨_, rfl⟩
      · rw [c]; exact ⟨_, rfl⟩
    refine ⟨V0 ++ [v2], G.stepV_frame hv, ?_, by rw [ar]; simp⟩
    rw [foldSp_on vs x P0 [p] (by rw [ar]; rfl)]
    exact St.snoc _ _ _ h0 (hp.step1 hk hq he ht hv)
  · rw [show C0 ++ [a, b] = C0 ++ [a] ++ [b] by simp] at h
    obtain ⟨V1, u, P1, p2, rfl, rfl, h1, hp2⟩ := h.unsnoc
    obtain ⟨V0, v, P0, p1, rfl, rfl, h0, hp1⟩ := h1.unsnoc
    obtain ⟨rfl, hq, hr, he, hl⟩ := G.inv2 hk hc
    have ar : arityB x.f0 = 2 := by rcases hk with c | c | c | c | c | c <;> rw [c] <;> rfl
    refine ⟨V0 ++ [⟨G.mt, val2 x.f0 v u⟩], ?_, ?_, by rw [ar]; simp⟩
    · rw [List.append_assoc]
      exact G.stepV_frame (stepV2 _ hk _ v u)
    · rw [List.append_assoc, foldSp_on vs x P0 ([p1] ++ [p2]) (by rw [ar]; rfl)]
      exact St.snoc _ _ _ h0 (Pt.step2 hk hp1 hp2 hq hr he ht hl)
end Go.Proofs.Ytinhlaiogkmkfaa.PA
end
section
/- Folded parts stay short. -/
namespace Go.Proofs.Ytinhlaiogkmkfaa.PA
open Go.RowKit Go.Proofs.YtinhlaiogkmkfaaW.PrintWords Go.Proofs.YtinhlaiogkmkfaaW.PrintLast Go.Proofs.YtinhlaiogkmkfaaW.PrintMore
set_option linter.unusedVariables false
def Bd (n : Nat) (p : List S45) : Prop := p.length ≤ n ∧ ∀ y ∈ p, y.f1.size ≤ 140737488351232
theorem Bd.truth (b : Bool) (n : Nat) : Bd (n + 1) (truthP b) := ⟨by show 1 ≤ n + 1; omega, fun y hy => by rw [List.mem_singleton.1 hy]; exact Nat.zero_le _⟩
theorem Bd.app {n m : Nat} {p q : List S45} (h : Bd n p) (g : Bd m q) : Bd (n + m) (p ++ q) := ⟨by rw [List.length_append]; exact Nat.add_le_add h.1 g.1, fun y hy => (List.mem_append.1 hy).elim (h.2 y) (g.2 y)⟩
theorem Bd.one {x : S45} (h : x.f1.size ≤ 140737488351232) : Bd 1 [x] := ⟨Nat.le_refl _, fun y hy => by rw [List.mem_singleton.1 hy]; exact h⟩
theorem Bd.up {n m : Nat} {p : List S45} (h : Bd n p) (hm : n ≤ m) : Bd m p := ⟨Nat.le_trans h.1 hm, h.2⟩
theorem Bd.flat {l : List (List S45)} (hs : ∀ p ∈ l, ∀ y ∈ p, y.f1.size ≤ 140737488351232) : Bd (l.map (·.length)).sum l.flatten :=
  ⟨by rw [List.length_flatten]; exact Nat.le_refl _, fun y hy => by
    obtain ⟨p, hp, hy⟩ := List.mem_flatten.1 hy
    exact hs p hp y hy⟩
theorem foldXp_bd {vs : List S56} (x : S45) {l : List (List S45)} (hn : l.length = arityB x.f0) (hx : x.f1.size ≤ 140737488351232) (hs : ∀ p ∈ l, ∀ y ∈ p, y.f1.size ≤ 140737488351232) : Bd ((l.map (·.length)).sum + 1) (foldXp vs x l) := by
  have hp : ∀ p ∈ l, Bd p.length p := fun p h => ⟨Nat.le_refl _, hs p h⟩
  unfold foldXp
  by_cases c11 : x.f0 = 11
  · rw [if_pos c11]
    have ar : arityB x.f0 = 1 := by rw [c11]; rfl
    rw [ar] at hn
    match l, hn, hp with
    | [p], _, hp =>
      have h := hp p (by simp)
      have es : (([p] : List (List S45)).map (·.length)).sum = p.length := by simp
      rw [es]
      show Bd _ (notP x.f0 x.f1 p)
      unfold notP
      by_cases h1 : (isP p 4 || isP p 5) = true
      · rw [if_pos h1]; exact Bd.truth _ _
      · rw [if_neg h1]
        by_cases h2 : (p.getLast?.map (·.f0)) = some 11
        · rw [if_pos h2]
          exact ⟨by rw [List.length_dropLast]; omega, fun y hy => h.2 y (List.mem_of_mem_take (by rw [← List.dropLast_eq_take]; exact hy))⟩
        · rw [if_neg h2]
          exact h.app (Bd.one hx)
  rw [if_neg c11]
  by_cases c12 : x.f0 = 12 ∨ x.f0 = 13
  · rw [if_pos c12]
    have ar : arityB x.f0 = 2 := by rcases c12 with c | c <;> rw [c] <;> rfl
    rw [ar] at hn
    match l, hn, hp with
    | [p, q], _, hp =>
      have h := hp p (by simp)
      have g := hp q (by simp)
      have es : (([p, q] : List (List S45)).map (·.length)).sum = p.length + q.length := by simp
      rw [es]
      show Bd _ (logicP x.f0 x.f1 p q)
      unfold logicP
      dsimp only
      by_cases h1 : (isP p (if x.f0 = 13 then 4 else 5) || isP q (if x.f0 = 13 then 4 else 5)) = true
      · rw [if_pos h1]
        exact ⟨by simp, fun y hy => by rw [List.mem_singleton.1 hy]; exact Nat.zero_le _⟩
      · rw [if_neg h1]
        by_cases h2 : isP p (if x.f0 = 13 then 5 else 4) = true
        · rw [if_pos h2]; exact g.up (by omega)
        · rw [if_neg h2]
          by_cases h3 : isP q (if x.f0 = 13 then 5 else 4) = true
          · rw [if_pos h3]; exact h.up (by omega)
          · rw [if_neg h3]; exact (h.app g).app (Bd.one hx)
  rw [if_neg c12]
  by_cases c6 : x.f0 = 6 ∨ x.f0 = 7 ∨ x.f0 = 8 ∨ x.f0 = 9 ∨ x.f0 = 10
  · rw [if_pos c6]
    have ef : ((l.map S66.mk).map (·.f0)).flatten = l.flatten := by rw [List.map_map]; congr 1; exact List.map_id'' (fun _ => rfl) l
    unfold textsP
    by_cases h1 : (l.map S66.mk).all (fun p => isP p.f0 1) = true
    · rw [if_pos h1]; exact Bd.truth _ _
    · rw [if_neg h1]
      by_cases h2 : sameVar (l.map S66.mk) = true
      · rw [if_pos h2]; exact Bd.truth _ _
      · rw [if_neg h2, ef]
        exact (Bd.flat hs).app (Bd.one hx)
  · rw [if_neg c6]
    unfold namedP
    by_cases h1 : x.f0 = 2 ∧ G.getB (rule_say.vrs vs) x.f1 = true ∧ (G.getT (rule_say.vrs vs) x.f1).size ≤ 1024
    · rw [if_pos h1]
      exact (Bd.one (x := ⟨1, G.getT (rule_say.vrs vs) x.f1⟩) (Nat.le_trans h1.2.2 (by decide))).up (by omega)
    · rw [if_neg h1]
      by_cases h2 : x.f0 = 3 ∧ G.getB (rule_say.vrs vs) x.f1 = true
      · rw [if_pos h2]; exact Bd.truth _ _
      · rw [if_neg h2]; exact (Bd.one (x := ⟨x.f0, x.f1⟩) hx).up (by omega)
end Go.Proofs.Ytinhlaiogkmkfaa.PA
end
section
/- Fold whole: what it answers, and what that says. -/
namespace Go.Proofs.Ytinhlaiogkmkfaa.PA
open Go.RowKit Go.Proofs.YtinhlaiogkmkfaaW.PrintWords Go.Proofs.YtinhlaiogkmkfaaW.PrintLast Go.Proofs.YtinhlaiogkmkfaaW.PrintMore
set_option linter.unusedVariables false
theorem St.ne {vs all : List S56} {C : List G.Prt} {V : List G.Vl} {P : List (List S45)} (h : St vs all C V P) : ∀ p ∈ P, p ≠ [] := by
  induction h with
  | nil => intro p hp; cases hp
  | snoc q v p _ hpt ih =>
    intro z hz
    rcases List.mem_append.1 hz with h1 | h1
    · exact ih z h1
    · rw [List.mem_singleton.1 h1]; exact hpt.nf.ne
theorem St.lens {vs all : List S56} {C : List G.Prt} {V : List G.Vl} {P : List (List S45)} (h : St vs all C V P) : C.length = P.length ∧ V.length = P.length := by
  induction h with
  | nil => exact ⟨rfl, rfl⟩
  | snoc q v p _ _ ih => simp [ih.1, ih.2]
theorem foldS_eq {vs : List S56} (x : S45) {P : List (List S45)} {k : Nat} (hv : vs.length < 4398046511104) (hk : vs.length + 30 < k) (hn : arityB x.f0 ≤ P.length) (hx : x.f1.size ≤ 140737488351232) (hs : ∀ p ∈ P, ∀ y ∈ p, y.f1.size ≤ 140737488351232)
    (hp : ∀ p ∈ P, p ≠ []) (hl : (P.map (·.length)).sum < 5864062014805) : foldS k vs x P = some (foldSp vs x P) ∧ ((foldSp vs x P).map (·.length)).sum ≤ (P.map (·.length)).sum + 1 ∧ ∀ p ∈ foldSp vs x P, ∀ y ∈ p, y.f1.size ≤ 140737488351232 := by
  have hd : (P.drop (P.length - arityB x.f0)).length = arityB x.f0 := by rw [List.length_drop]; omega
  have es : (P.map (·.length)).sum = ((P.take (P.length - arityB x.f0)).map (·.length)).sum + ((P.drop (P.length - arityB x.f0)).map (·.length)).sum := by
    rw [← List.sum_append, ← List.map_append, List.take_append_drop]
  have sd : ∀ p ∈ P.drop (P.length - arityB x.f0), ∀ y ∈ p, y.f1.size ≤ 140737488351232 := fun p h => hs p (List.mem_of_mem_drop h)
  have bd := foldXp_bd (vs := vs) x hd hx sd
  refine ⟨?_, ?_, ?_⟩
  · unfold foldS foldSp
    rw [arity_eq _ (by omega), Option.bind_some, if_pos ⟨by omega, by omega⟩, Int.toNat_natCast,
      foldX_eq x hv hk hd hx sd (fun p h => hp p (List.mem_of_mem_drop h)) (by omega)]
    rfl
  · unfold foldSp
    rw [List.map_append, List.sum_append]
    have := bd.1
    simp only [List.map_cons, List.map_nil, List.sum_cons, List.sum_nil]
    omega
  · intro p h
    unfold foldSp at h
    rcases List.mem_append.1 h with h1 | h1
    · exact hs p (List.mem_of_mem_take h1)
    · rw [List.mem_singleton.1 h1]; exact bd.2
theorem fold_run {vs more : List S56} {k : Nat} (hv : vs.length < 4398046511104) (hk : vs.length + 30 < k) : ∀ (t : List S45) (C : List G.Prt) (V : List G.Vl) (P : List (List S45)) (C' : List G.Prt),
    (∀ y ∈ t, y.f1.size ≤ 140737488351232) → St vs (vs ++ more) C V P → (∀ p ∈ P, ∀ y ∈ p, y.f1.size ≤ 140737488351232) → (P.map (·.length)).sum + t.length < 5864062014805 → G.runC (expr_Check.prs t) C = some C' →
    ∃ V', G.runV (rule_say.vrs (vs ++ more)) (expr_Check.prs t) V = some V' ∧ foldR k vs t P = some (foldRp vs t P) ∧ St vs (vs ++ more) C' V' (foldRp vs t P) ∧ ((foldRp vs t P).map (·.length)).sum ≤ (P.map (·.length)).sum + t.length ∧
      ∀ p ∈ foldRp vs t P, ∀ y ∈ p, y.f1.size ≤ 140737488351232 := by
  intro t
  induction t with
  | nil =>
    intro C V P C' _ h hs _ hc
    have e : some C = some C' := hc
    injection e with e
    subst e
    exact ⟨V, rfl, rfl, h, by show (P.map (·.length)).sum ≤ _; omega, hs⟩
  | cons x r ih =>
    intro C V P C' ht h hs hl hc
    have hc' : (G.stepC C x.f0 x.f1).bind (G.runC (expr_Check.prs r)) = some C' := hc
    rw [Option.bind_eq_some_iff] at hc'
    obtain ⟨C1, h1, h2⟩ := hc'
    simp only [List.length_cons] at hl
    have hx := ht x (by simp)
    obtain ⟨V1, v1, st1, an⟩ := h.step hx h1
    obtain ⟨f1, f2, f3⟩ := foldS_eq x hv hk an hx hs h.ne (by omega)
    obtain ⟨V2, v2, g1, g2, g3, g4⟩ := ih C1 V1 (foldSp vs x P) C' (fun y hy => ht y (by simp [hy])) st1 f3 (by omega) h2
    refine ⟨V2, ?_, ?_, g2, ?_, g4⟩
    · show (G.stepV _ x.f0 x.f1 V).bind (G.runV _ (expr_Check.prs r)) = _
      rw [v1]; exact v2
    · show (foldS k vs x P).bind (foldR k vs r) = _
      rw [f1]; exact g1
    · show ((foldRp vs r (foldSp vs x P)).map (·.length)).sum ≤ _
      simp only [List.length_cons]
      omega
/-- What is left of an expression. -/
def leftOf (vs : List S56) (t : List S45) : List S45 := (foldRp vs t []).headD []
theorem fold_eq {vs : List S56} {t : List S45} {k : Nat} (more : List S56) (hv : VarsFit vs) (hm : VarsFit (vs ++ more)) (hk : vs.length + 30 < k) (ht : StepsFit t) (hc : okC t = true) :
    rule_Fold.f k t vs = some (leftOf vs t, 0) ∧ (∃ q v, Pt vs (vs ++ more) q v (leftOf vs t) ∧ q.truth = true ∧ v.ok = sayB t (vs ++ more)) ∧ (leftOf vs t).length ≤ t.length ∧ StepsFit (leftOf vs t) := by
  obtain ⟨q, hq, hqt⟩ := G.checkB_run hc
  have hl : t.length ≤ 1024 := by have := G.check_len hc; simpa [expr_Check.prs] using this
  obtain ⟨V', v1, f1, st, f2, f3⟩ := fold_run (more := more) hv.len hk t [] [] [] [q] ht.each St.nil (fun p hp => by cases hp) (by have := ht.len; simpa using this) hq
  obtain ⟨V0, v, P0, p, rfl, eP, h0, hpt⟩ := St.unsnoc (C := []) (q := q) (by simpa using st)
  have hP0 : P0 = [] := List.length_eq_zero_iff.1 (by have := h0.lens.1; simpa using this.symm)
  have hV0 : V0 = [] := List.length_eq_zero_iff.1 (by have := h0.lens.2; rw [hP0] at this; simpa using this)
  subst hP0 hV0
  have el : leftOf vs t = p := by unfold leftOf; rw [eP]; rfl
  rw [eP] at f1 f2 f3
  simp only [List.nil_append, List.map_cons, List.map_nil, List.sum_cons, List.sum_nil] at f2
  have hlen : p.length ≤ t.length := by omega
  rw [el]
  refine ⟨?_, ⟨q, v, hpt, hqt, ?_⟩, hlen, ⟨by have := ht.len; omega, f3 p (by simp)⟩⟩
  · unfold rule_Fold.f
    rw [check_eq ht, Option.bind_some, hc, if_pos rfl, if_pos (by omega), f1, Option.bind_some]
    show (some p).bind _ = _
    rw [Option.bind_some, if_pos (by have := ht.len; omega)]
  · have e := sayV_eq ht hm hc
    unfold G.sayV at e
    rw [v1, Option.bind_some] at e
    have e2 : G.pop1 ([] ++ [v]) = some ([], v) := G.pop1_snoc [] v
    rw [e2] at e
    injection e
end Go.Proofs.Ytinhlaiogkmkfaa.PA
end
