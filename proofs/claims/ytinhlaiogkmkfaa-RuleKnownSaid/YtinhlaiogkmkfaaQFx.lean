/- Texts of this claim, joined: words and laws that the others use. -/
import Derived.Test.YtinhlaiogkmkfaaQPAx9
import Derived.Shelf.Small.Bits
import Derived.Shelf.Strconv.Itoa0
import Derived.Shelf.Sort.Plain
import Derived.Shelf.Slices.CompactS
import Derived.Shelf.Slices.Cells
import Derived.Shelf.Slices.In.SortNone
import Derived.Test.YtinhlaiogkmkfaaProg
import Derived.Test.YtinhlaiogkmkfaaQGg
import Derived.Test.YtinhlaiogkmkfaaQVc
section
/- A folded part says what the part says: a step over two parts. -/
namespace Go.Proofs.Ytinhlaiogkmkfaa.PA
open Go.RowKit Go.Proofs.YtinhlaiogkmkfaaW.PrintWords Go.Proofs.YtinhlaiogkmkfaaW.PrintLast Go.Proofs.YtinhlaiogkmkfaaW.PrintMore
set_option linter.unusedVariables false
/-- What a step says of two values. -/
def val2 (k : Int) (a b : G.Vl) : Bool :=
  if k = 7 then a.text.toList == b.text.toList else if k = 8 then !(a.text.toList == b.text.toList) else if k = 9 then (G.matchRes b.text a.text).1 else if k = 10 then !(G.matchRes b.text a.text).1
  else if k = 12 then a.ok && b.ok else a.ok || b.ok
theorem stepV2 (vs : List (ByteArray × ByteArray)) {k : Int} (hk : k = 7 ∨ k = 8 ∨ k = 9 ∨ k = 10 ∨ k = 12 ∨ k = 13) (tx : ByteArray) (a b : G.Vl) : G.stepV vs k tx [a, b] = some [⟨G.mt, val2 k a b⟩] := by
  rcases hk with rfl | rfl | rfl | rfl | rfl | rfl <;> rfl
theorem val2_eq {k : Int} {a b a' b' : G.Vl} (hk : k = 7 ∨ k = 8 ∨ k = 9 ∨ k = 10 ∨ k = 12 ∨ k = 13) (h1 : 12 ≤ k → a'.ok = a.ok ∧ b'.ok = b.ok) (h2 : k < 12 → a'.text = a.text ∧ b'.text = b.text) : val2 k a' b' = val2 k a b := by
  unfold val2
  by_cases c : 12 ≤ k
  · have n7 : ¬ k = 7 := by omega
    have n8 : ¬ k = 8 := by omega
    have n9 : ¬ k = 9 := by omega
    have n10 : ¬ k = 10 := by omega
    rw [if_neg n7, if_neg n7, if_neg n8, if_neg n8, if_neg n9, if_neg n9, if_neg n10, if_neg n10, (h1 c).1, (h1 c).2]
  · rw [(h2 (by omega)).1, (h2 (by omega)).2]
    by_cases c7 : k = 7
    · rw [if_pos c7, if_pos c7]
    rw [if_neg c7, if_neg c7]
    by_cases c8 : k = 8
    · rw [if_pos c8, if_pos c8]
    rw [if_neg c8, if_neg c8]
    by_cases c9 : k = 9
    · rw [if_pos c9, if_pos c9]
    rw [if_neg c9, if_neg c9, if_pos (by omega), if_pos (by omega)]
theorem Pt.over2 {vs all : List S56} {x : S45} {q r : G.Prt} {v u : G.Vl} {a b : List S45} (hk : x.f0 = 7 ∨ x.f0 = 8 ∨ x.f0 = 9 ∨ x.f0 = 10 ∨ x.f0 = 12 ∨ x.f0 = 13) (ha : Pt vs all q v a) (hb : Pt vs all r u b)
    (hq : q.truth = decide (12 ≤ x.f0)) (hr : r.truth = decide (12 ≤ x.f0)) (he : x.f1.toList.isEmpty = true) (hl : x.f0 = 9 ∨ x.f0 = 10 → r.lit = true ∧ (G.checkRes r.text).2 = 0) (nf : Nf vs (a ++ b ++ [x])) :
    Pt vs all G.tru ⟨G.mt, val2 x.f0 v u⟩ (a ++ b ++ [x]) := by
  obtain ⟨q', h1, h2⟩ := ha.run
  obtain ⟨v', h3, h4, h5⟩ := ha.val
  obtain ⟨r', g1, g2⟩ := hb.run
  obtain ⟨u', g3, g4, g5⟩ := hb.val
  refine ⟨nf, ⟨G.tru, ?_, rfl⟩, fun h => (by cases h), ⟨⟨G.mt, val2 x.f0 v' u'⟩, ?_, fun _ => ?_, fun h => (by cases h)⟩, fun h => (by cases h)⟩
  · rw [prs_snoc, prs_app, G.runC_app, G.runC_app, h1, Option.bind_some]
    rw [show G.runC (expr_Check.prs b) [q'] = some [q', r'] from G.runC_frame [q'] _ g1, Option.bind_some]
    show (G.stepC [q', r'] x.f0 x.f1).bind (fun z => some z) = _
    rw [G.mk2 hk (h2.trans hq) (g2.trans hr) he (fun c => ?_)]
    · rfl
    · obtain ⟨l1, l2⟩ := hl c
      have e := hb.lit l1
      subst e
      have hs := run_text g1
      have z : (G.stepC [] 1 r.text).bind (fun z => some z) = some [r'] := g1
      have z1 : G.stepC [] 1 r.text = some [⟨false, true, r.text⟩] := by unfold G.stepC; simp [hs]
      rw [z1] at z
      have z2 : r' = ⟨false, true, r.text⟩ := by simpa using z.symm
      rw [z2]
      exact ⟨rfl, l2⟩
  · rw [prs_snoc, prs_app, G.runV_app, G.runV_app, h3, Option.bind_some]
    rw [show G.runV (rule_say.vrs all) (expr_Check.prs b) [v'] = some [v', u'] from G.runV_frame _ [v'] _ g3, Option.bind_some]
    show (G.stepV (rule_say.vrs all) x.f0 x.f1 [v', u']).bind (fun z => some z) = _
    rw [stepV2 _ hk]
    rfl
  · refine val2_eq hk (fun c => ?_) (fun c => ?_)
    · exact ⟨h4 (hq.trans (decide_eq_true c)), g4 (hr.trans (decide_eq_true c))⟩
    · exact ⟨h5 (hq.trans (decide_eq_false (by omega))), g5 (hr.trans (decide_eq_false (by omega)))⟩
theorem Pt.isTruth {vs all : List S56} {q : G.Prt} {v : G.Vl} {p : List S45} (h : Pt vs all q v p) (ht : q.truth = true) {k : Int} (hk : k = 4 ∨ k = 5) (hp : isP p k = true) : v.ok = decide (k = 4) := by
  obtain ⟨s, rfl⟩ := isP_one hp
  obtain ⟨v', h3, h4, _⟩ := h.val
  rw [← h4 ht]
  rcases hk with rfl | rfl
  · have z : some [(⟨G.mt, true⟩ : G.Vl)] = some [v'] := h3
    have z' : v' = ⟨G.mt, true⟩ := by simpa using z.symm
    rw [z']; rfl
  · have z : some [(⟨G.mt, false⟩ : G.Vl)] = some [v'] := h3
    have z' : v' = ⟨G.mt, false⟩ := by simpa using z.symm
    rw [z']; rfl
/-- A truth that says the same is as good. -/
theorem Pt.same {vs all : List S56} {q : G.Prt} {v v2 : G.Vl} {p : List S45} (h : Pt vs all q v p) (ht : q.truth = true) (e : v.ok = v2.ok) : Pt vs all G.tru v2 p := by
  obtain ⟨q', r1, r2⟩ := h.run
  obtain ⟨v', r3, r4, _⟩ := h.val
  exact ⟨h.nf, ⟨q', r1, r2.trans ht⟩, fun h => (by cases h), ⟨v', r3, fun _ => (r4 ht).trans e, fun h => (by cases h)⟩, fun h => (by cases h)⟩
theorem Pt.step2 {vs all : List S56} {x : S45} {q r : G.Prt} {v u : G.Vl} {a b : List S45} (hk : x.f0 = 7 ∨ x.f0 = 8 ∨ x.f0 = 9 ∨ x.f0 = 10 ∨ x.f0 = 12 ∨ x.f0 = 13) (ha : Pt vs all q v a) (hb : Pt vs all r u b)
    (hq : q.truth = decide (12 ≤ x.f0)) (hr : r.truth = decide (12 ≤ x.f0)) (he : x.f1.toList.isEmpty = true) (ht : x.f1.size ≤ 140737488351232) (hl : x.f0 = 9 ∨ x.f0 = 10 → r.lit = true ∧ (G.checkRes r.text).2 = 0) :
    Pt vs all G.tru ⟨G.mt, val2 x.f0 v u⟩ (foldXp vs x [a, b]) := by
  have ar : arityB x.f0 = 2 := by rcases hk with c | c | c | c | c | c <;> rw [c] <;> rfl
  have nf : Nf vs (foldXp vs x [a, b]) := Nf.step x (by rw [ar]; rfl) (fun z hz => by simp at hz; rcases hz with rfl | rfl; exact ha.nf; exact hb.nf)
  have ov : foldXp vs x [a, b] = a ++ b ++ [x] → Pt vs all G.tru ⟨G.mt, val2 x.f0 v u⟩ (foldXp vs x [a, b]) := fun e => by
    rw [e] at nf ⊢
    exact ha.over2 hk hb hq hr he hl nf
  by_cases c12 : x.f0 = 12 ∨ x.f0 = 13
  · have e : foldXp vs x [a, b] = logicP x.f0 x.f1 a b := by unfold foldXp; rw [if_neg (by omega), if_pos c12]
    have hq' : q.truth = true := hq.trans (decide_eq_true (by omega))
    have hr' : r.truth = true := hr.trans (decide_eq_true (by omega))
    rcases c12 with c | c
    · have ev : val2 x.f0 v u = (v.ok && u.ok) := by rw [c]; rfl
      have el : logicP x.f0 x.f1 a b = if isP a 5 || isP b 5 then truthP false else if isP a 4 then b else if isP b 4 then a else a ++ b ++ [x] := by unfold logicP; dsimp only; rw [if_neg (show ¬ x.f0 = 13 by omega), if_neg (show ¬ x.f0 = 13 by omega)]; rfl
      by_cases h1 : (isP a 5 || isP b 5) = true
      · rw [if_pos h1] at el
        rw [e, el, ev]
        have : (v.ok && u.ok) = false := by
          rw [Bool.or_eq_true] at h1
          rcases h1 with h1 | h1
          · rw [ha.isTruth hq' (.inr rfl) h1]; rfl
          · rw [hb.isTruth hr' (.inr rfl) h1]; simp
        rw [this]
        exact Pt.truth vs all false
      · rw [if_neg h1] at el
        by_cases h2 : isP a 4 = true
        · rw [if_pos h2] at el
          rw [e, el, ev]
          exact hb.same hr' (by rw [ha.isTruth hq' (.inl rfl) h2]; rfl)
        · rw [if_neg h2] at el
          by_cases h3 : isP b 4 = true
          · rw [if_pos h3] at el
            rw [e, el, ev]
            exact ha.same hq' (by rw [hb.isTruth hr' (.inl rfl) h3]; simp)
          · rw [if_neg h3] at el
            exact ov (e.trans el)
    · have ev : val2 x.f0 v u = (v.ok || u.ok) := by rw [c]; rfl
      have el : logicP x.f0 x.f1 a b = if isP a 4 || isP b 4 then truthP true else if isP a 5 then b else if isP b 5 then a else a ++ b ++ [x] := by unfold logicP; dsimp only; rw [if_pos c, if_pos c]; rfl
      by_cases h1 : (isP a 4 || isP b 4) = true
      · rw [if_pos h1] at el
        rw [e, el, ev]
        have : (v.ok || u.ok) = true := by
          rw [Bool.or_eq_true] at h1
          rcases h1 with h1 | h1
          · rw [ha.isTruth hq' (.inl rfl) h1]; rfl
          · rw [hb.isTruth hr' (.inl rfl) h1]; simp
        rw [this]
        exact Pt.truth vs all true
      · rw [if_neg h1] at el
        by_cases h2 : isP a 5 = true
        · rw [if_pos h2] at el
          rw [e, el, ev]
          exact hb.same hr' (by rw [ha.isTruth hq' (.inr rfl) h2]; rfl)
        · rw [if_neg h2] at el
          by_cases h3 : isP b 5 = true
          · rw [if_pos h3] at el
            rw [e, el, ev]
            exact ha.same hq' (by rw [hb.isTruth hr' (.inr rfl) h3]; simp)
          · rw [if_neg h3] at el
            exact ov (e.trans el)
  · have e : foldXp vs x [a, b] = textsP x.f0 x.f1 [⟨a⟩, ⟨b⟩] := by unfold foldXp; rw [if_neg (by omega), if_neg c12, if_pos (by omega)]; rfl
    have hq' : q.truth = false := hq.trans (decide_eq_false (by omega))
    have hr' : r.truth = false := hr.trans (decide_eq_false (by omega))
    by_cases h1 : ([⟨a⟩, ⟨b⟩] : List S66).all (fun p => isP p.f0 1) = true
    · have h1' := h1
      simp only [List.all_cons, List.all_nil, Bool.and_true, Bool.and_eq_true] at h1'
      obtain ⟨s, hp⟩ := isP_one h1'.1
      obtain ⟨z, hz⟩ := isP_one h1'.2
      subst hp hz
      obtain ⟨hs, hvt⟩ := ha.text hq'
      obtain ⟨hs2, hut⟩ := hb.text hr'
      have eb : sayB ([⟨1, s⟩, ⟨1, z⟩] ++ [x]) [] = val2 x.f0 v u := by
        refine sayB_of (fit_of (by simp) (fun y hy => ?_) nil_fit) ?_
        · simp at hy
          rcases hy with rfl | rfl | rfl
          · exact Nat.le_trans hs (by decide)
          · exact Nat.le_trans hs2 (by decide)
          · exact ht
        · show G.sayV _ [(1, s), (1, z), (x.f0, x.f1)] = _
          have w : val2 x.f0 ⟨s, false⟩ ⟨z, false⟩ = val2 x.f0 v u := val2_eq hk (fun c => by omega) (fun _ => ⟨hvt.symm, hut.symm⟩)
          rw [← w]
          show ((G.stepV _ x.f0 x.f1 [⟨s, false⟩, ⟨z, false⟩]).bind fun y => some y).bind _ = _
          rw [stepV2 _ hk]
          rfl
      have e3 : textsP x.f0 x.f1 [⟨[⟨1, s⟩]⟩, ⟨[⟨1, z⟩]⟩] = truthP (val2 x.f0 v u) := by
        unfold textsP
        rw [if_pos h1]
        exact congrArg truthP eb
      rw [e, e3]
      exact Pt.truth vs all _
    · by_cases h2 : sameVar [⟨a⟩, ⟨b⟩] = true
      · have e3 : textsP x.f0 x.f1 [⟨a⟩, ⟨b⟩] = truthP (x.f0 == 7) := by unfold textsP; rw [if_neg h1, if_pos h2]
        have h2' : (isP a 2 && isP b 2 && (a.map fun s => s.f1.toList) == (b.map fun s => s.f1.toList)) = true := h2
        rw [Bool.and_eq_true, Bool.and_eq_true] at h2'
        obtain ⟨s, hp⟩ := isP_one h2'.1.1
        obtain ⟨z, hz⟩ := isP_one h2'.1.2
        subst hp hz
        have esz : s.toList = z.toList := by simpa using h2'.2
        have hx : x.f0 = 7 ∨ x.f0 = 8 := by
          by_cases c9 : x.f0 = 9 ∨ x.f0 = 10
          · have := hb.lit (hl c9).1
            simp at this
          · omega
        obtain ⟨v', h3, _, h5⟩ := ha.val
        obtain ⟨u', g3, _, g5⟩ := hb.val
        have z1 : some [(⟨G.getT (rule_say.vrs all) s, false⟩ : G.Vl)] = some [v'] := h3
        have z2 : some [(⟨G.getT (rule_say.vrs all) z, false⟩ : G.Vl)] = some [u'] := g3
        have z1' : v' = ⟨G.getT (rule_say.vrs all) s, false⟩ := by simpa using z1.symm
        have z2' : u' = ⟨G.getT (rule_say.vrs all) z, false⟩ := by simpa using z2.symm
        have eg : ∀ l : List (ByteArray × ByteArray), G.getV l s = G.getV l z := by
          intro l
          induction l with
          | nil => rfl
          | cons y t ih => unfold G.getV; rw [esz, ih]
        have et : v.text = u.text := by
          rw [← h5 hq', ← g5 hr', z1', z2']
          show (G.getV _ s).getD _ = (G.getV _ z).getD _
          rw [eg]
        have ev : val2 x.f0 v u = (x.f0 == 7) := by
          unfold val2
          rw [et]
          rcases hx with c | c <;> rw [c] <;> simp
        rw [e, e3, ev]
        exact Pt.truth vs all _
      · exact ov (e.trans (by unfold textsP; rw [if_neg h1, if_neg h2]; simp))
end Go.Proofs.Ytinhlaiogkmkfaa.PA
end
section
/- Stacks of marks, values and folded parts, side by side; one step on all three. -/
namespace Go.Proofs.Ytinhlaiogkmkfaa.PA
open Go.RowKit Go.Proofs.YtinhlaiogkmkfaaW.PrintWords Go.Proofs.YtinhlaiogkmkfaaW.PrintLast Go.Proofs.YtinhlaiogkmkfaaW.PrintMore
set_option linter.unusedVariables false
inductive St (vs all : List S56) : List G.Prt → List G.Vl → List (List S45) → Prop where
  | nil : St vs all [] [] []
  | snoc {C : List G.Prt} {V : List G.Vl} {P : List (List S45)} (q : G.Prt) (v : G.Vl) (p : List S45) : St vs all C V P → Pt vs all q v p → St vs all (C ++ [q]) (V ++ [v]) (P ++ [p])
theorem St.unsnoc {vs all : List S56} {C : List G.Prt} {q : G.Prt} {V : List G.Vl} {P : List (List S45)} (h : St vs all (C ++ [q]) V P) : ∃ V0 v P0 p, V = V0 ++ [v] ∧ P = P0 ++ [p] ∧ St vs all C V0 P0 ∧ Pt vs all q v p := by
  generalize hC : C ++ [q] = D at h
  cases h with
  | nil => simp at hC
  | snoc q' v p h1 h2 =>
    obtain ⟨rfl, e⟩ := List.append_inj' hC rfl
    simp at e
    subst e
    exact ⟨_, v, _, p, rfl, rfl, h1, h2⟩
theorem popC_has {st s l : List G.Prt} {k : Nat} {t : Bool} (h : G.popC st k t = some (s, l)) : st = s ++ l ∧ l.length = k := ⟨(G.popC_parts h).1, (G.popC_parts h).2.1⟩
/-- What a step of arity n finds on the stack. -/
theorem split_of {C C' : List G.Prt} {k : Int} {tx : ByteArray} (h : G.stepC C k tx = some C') :
    (arityB k = 0 ∧ ∃ q, C' = C ++ [q] ∧ G.stepC [] k tx = some [q]) ∨ ((k = 6 ∨ k = 11) ∧ ∃ C0 q, C = C0 ++ [q]) ∨ ((k = 7 ∨ k = 8 ∨ k = 9 ∨ k = 10 ∨ k = 12 ∨ k = 13) ∧ ∃ C0 a b, C = C0 ++ [a, b]) := by
  have one : ∀ {t : Bool} (ok : List G.Prt → Bool), (match G.popC C 1 t with | some (s, l) => if ok l && tx.toList.isEmpty then some (s ++ [G.tru]) else none | none => none) = some C' → ∃ C0 q, C = C0 ++ [q] := by
    intro t ok e
    split at e
    · rename_i s l hp
      obtain ⟨e1, e2⟩ := popC_has hp
      match l, e2 with
      | [q], _ => exact ⟨s, q, e1⟩
    · cases e
  have two : ∀ {t : Bool} (ok : List G.Prt → Bool), (match G.popC C 2 t with | some (s, l) => if ok l && tx.toList.isEmpty then some (s ++ [G.tru]) else none | none => none) = some C' → ∃ C0 a b, C = C0 ++ [a, b] := by
    intro t ok e
    split at e
    · rename_i s l hp
      obtain ⟨e1, e2⟩ := popC_has hp
      match l, e2 with
      | [a, b], _ => exact ⟨s, a, b, e1⟩
    · cases e
  have push : ∀ {b : Prop} [Decidable b] {q : G.Prt}, (if b then some (C ++ [q]) else none) = some C' → C' = C ++ [q] ∧ b := by
    intro b _ q e
    split at e
    · rename_i hb
      injection e with e
      exact ⟨e.symm, hb⟩
    · cases e
  unfold G.stepC at h
  simp only [] at h
  by_cases c1 : k = 1
  · rw [if_pos c1] at h
    obtain ⟨e, hb⟩ := push h
    exact .inl ⟨by rw [c1]; rfl, _, e, by rw [c1]; unfold G.stepC; simp [hb]⟩
  rw [if_neg c1] at h
  by_cases c2 : k = 2
  · rw [if_pos c2] at h
    obtain ⟨e, hb⟩ := push h
    exact .inl ⟨by rw [c2]; rfl, _, e, by rw [c2]; unfold G.stepC; simp [hb]⟩
  rw [if_neg c2] at h
  by_cases c3 : k = 3
  · rw [if_pos c3] at h
    obtain ⟨e, hb⟩ := push h
    exact .inl ⟨by rw [c3]; rfl, _, e, by rw [c3]; unfold G.stepC; simp [hb]⟩
  rw [if_neg c3] at h
  by_cases c4 : k = 4 ∨ k = 5
  · rw [if_pos c4] at h
    obtain ⟨e, hb⟩ := push h
    have hb' : tx.toList = [] := List.isEmpty_iff.1 hb
    rcases c4 with c | c
    · exact .inl ⟨by rw [c]; rfl, _, e, by rw [c]; unfold G.stepC; simp [hb']⟩
    · exact .inl ⟨by rw [c]; rfl, _, e, by rw [c]; unfold G.stepC; simp [hb']⟩
  rw [if_neg c4] at h
  by_cases c6 : k = 6
  · rw [if_pos c6] at h
    exact .inr (.inl ⟨.inl c6, one (fun _ => true) h⟩)
  rw [if_neg c6] at h
  by_cases c7 : k = 7 ∨ k = 8
  · rw [if_pos c7] at h
    exact .inr (.inr ⟨by omega, two (fun _ => true) h⟩)
  rw [if_neg c7] at h
  by_cases c9 : k = 9 ∨ k = 10
  · rw [if_pos c9] at h
    exact .inr (.inr ⟨by omega, two (fun l => match l[1]? with | some q => q.lit && (G.checkRes q.text).2 == 0 | none => false) h⟩)
  rw [if_neg c9] at h
  by_cases c11 : k = 11
  · rw [if_pos c11] at h
    exact .inr (.inl ⟨.inr c11, one (fun _ => true) h⟩)
  rw [if_neg c11] at h
  by_cases c12 : k = 12 ∨ k = 13
  · rw [if_pos c12] at h
    exact .inr (.inr ⟨by omega, two (fun _ => true) h⟩)
  rw [if_neg c12] at h
  cases h
/-- One step on all three stacks. -/
theorem St.step {vs more : List S56} {x : S45} {C C' : List G.Prt} {V : List G.Vl} {P : List (List S45)} (h : St vs (vs ++ more) C V P) (ht : x.f1.size ≤ 140737488351232) (hc : G.stepC C x.f0 x.f1 = some C') :
    ∃ V', G.stepV (rule_say.vrs (vs ++ more)) x.f0 x.f1 V = some V' ∧ St vs (vs ++ more) C' V' (foldSp vs x P) ∧ arityB x.f0 ≤ P.length := by
  rcases split_of hc with ⟨ar, q, rfl, hq⟩ | ⟨hk, C0, q, rfl⟩ | ⟨hk, C0, a, b, rfl⟩
  · obtain ⟨sv, e1, e2⟩ := G.step_on (rule_say.vrs (vs ++ more)) (sv := []) hq rfl
    obtain ⟨s, v, rfl, hs⟩ := G.snoc_of (n := 0) e2
    obtain rfl : s = [] := List.length_eq_zero_iff.1 hs
    have e3 := G.stepV_frame (st0 := V) e1
    rw [List.append_nil] at e3
    have e4 := foldSp_on vs x P [] (by rw [ar]; rfl)
    rw [List.append_nil, foldXp_named vs x [] ar] at e4
    refine ⟨V ++ [v], e3, ?_, by omega⟩
    rw [e4]
    exact St.snoc q v _ h (Pt.named ar hq e1)
  · obtain ⟨V0, v, P0, p, rfl, rfl, h0, hp⟩ := h.unsnoc
    obtain ⟨rfl, hq, he⟩ := G.inv1 hk hc
    have ar : arityB x.f0 = 1 := by rcases hk with c | c <;> rw [c] <;> rfl
    obtain ⟨v2, hv⟩ : ∃ v2, G.stepV (rule_say.vrs (vs ++ more)) x.f0 x.f1 [v] = some [v2] := by
      rcases hk with c | c
      · rw [c]; exact ⟨_, rfl⟩
      · rw [c]; exact ⟨_, rfl⟩
    refine ⟨V0 ++ [v2], G.stepV_frame hv, ?_, by rw [ar]; simp⟩
    rw [foldSp_on vs x P0 [p] (by rw [ar]; rfl)]
    exact St.snoc _ _ _ h0 (hp.step1 hk hq he ht hv)
  · rw [show C0 ++ [a, b] = C0 ++ [a] ++ [b] by simp] at h
    obtain ⟨V1, u, P1, p2, rfl, rfl, h1, hp2⟩ := h.unsnoc
    obtain ⟨V0, v, P0, p1, rfl, rfl, h0, hp1⟩ := h1.unsnoc
    obtain ⟨rfl, hq, hr, he, hl⟩ := G.inv2 hk hc
    have ar : arityB x.f0 = 2 := by rcases hk with c | c | c | c | c | c <;> rw [c] <;> rfl
    refine ⟨V0 ++ [⟨G.mt, val2 x.f0 v u⟩], ?_, ?_, by rw [ar]; simp⟩
    · rw [List.append_assoc]
      exact G.stepV_frame (stepV2 _ hk _ v u)
    · rw [List.append_assoc, foldSp_on vs x P0 ([p1] ++ [p2]) (by rw [ar]; rfl)]
      exact St.snoc _ _ _ h0 (Pt.step2 hk hp1 hp2 hq hr he ht hl)
end Go.Proofs.Ytinhlaiogkmkfaa.PA
end
section
/- Folded parts stay short. -/
namespace Go.Proofs.Ytinhlaiogkmkfaa.PA
open Go.RowKit Go.Proofs.YtinhlaiogkmkfaaW.PrintWords Go.Proofs.YtinhlaiogkmkfaaW.PrintLast Go.Proofs.YtinhlaiogkmkfaaW.PrintMore
set_option linter.unusedVariables false
def Bd (n : Nat) (p : List S45) : Prop := p.length ≤ n ∧ ∀ y ∈ p, y.f1.size ≤ 140737488351232
theorem Bd.truth (b : Bool) (n : Nat) : Bd (n + 1) (truthP b) := ⟨by show 1 ≤ n + 1; omega, fun y hy => by rw [List.mem_singleton.1 hy]; exact Nat.zero_le _⟩
theorem Bd.app {n m : Nat} {p q : List S45} (h : Bd n p) (g : Bd m q) : Bd (n + m) (p ++ q) := ⟨by rw [List.length_append]; exact Nat.add_le_add h.1 g.1, fun y hy => (List.mem_append.1 hy).elim (h.2 y) (g.2 y)⟩
theorem Bd.one {x : S45} (h : x.f1.size ≤ 140737488351232) : Bd 1 [x] := ⟨Nat.le_refl _, fun y hy => by rw [List.mem_singleton.1 hy]; exact h⟩
theorem Bd.up {n m : Nat} {p : List S45} (h : Bd n p) (hm : n ≤ m) : Bd m p := ⟨Nat.le_trans h.1 hm, h.2⟩
theorem Bd.flat {l : List (List S45)} (hs : ∀ p ∈ l, ∀ y ∈ p, y.f1.size ≤ 140737488351232) : Bd (l.map (·.length)).sum l.flatten :=
  ⟨by rw [List.length_flatten]; exact Nat.le_refl _, fun y hy => by
    obtain ⟨p, hp, hy⟩ := List.mem_flatten.1 hy
    exact hs p hp y hy⟩
theorem foldXp_bd {vs : List S56} (x : S45) {l : List (List S45)} (hn : l.length = arityB x.f0) (hx : x.f1.size ≤ 140737488351232) (hs : ∀ p ∈ l, ∀ y ∈ p, y.f1.size ≤ 140737488351232) : Bd ((l.map (·.length)).sum + 1) (foldXp vs x l) := by
  have hp : ∀ p ∈ l, Bd p.length p := fun p h => ⟨Nat.le_refl _, hs p h⟩
  unfold foldXp
  by_cases c11 : x.f0 = 11
  · rw [if_pos c11]
    have ar : arityB x.f0 = 1 := by rw [c11]; rfl
    rw [ar] at hn
    match l, hn, hp with
    | [p], _, hp =>
      have h := hp p (by simp)
      have es : (([p] : List (List S45)).map (·.length)).sum = p.length := by simp
      rw [es]
      show Bd _ (notP x.f0 x.f1 p)
      unfold notP
      by_cases h1 : (isP p 4 || isP p 5) = true
      · rw [if_pos h1]; exact Bd.truth _ _
      · rw [if_neg h1]
        by_cases h2 : (p.getLast?.map (·.f0)) = some 11
        · rw [if_pos h2]
          exact ⟨by rw [List.length_dropLast]; omega, fun y hy => h.2 y (List.mem_of_mem_take (by rw [← List.dropLast_eq_take]; exact hy))⟩
        · rw [if_neg h2]
          exact h.app (Bd.one hx)
  rw [if_neg c11]
  by_cases c12 : x.f0 = 12 ∨ x.f0 = 13
  · rw [if_pos c12]
    have ar : arityB x.f0 = 2 := by rcases c12 with c | c <;> rw [c] <;> rfl
    rw [ar] at hn
    match l, hn, hp with
    | [p, q], _, hp =>
      have h := hp p (by simp)
      have g := hp q (by simp)
      have es : (([p, q] : List (List S45)).map (·.length)).sum = p.length + q.length := by simp
      rw [es]
      show Bd _ (logicP x.f0 x.f1 p q)
      unfold logicP
      dsimp only
      by_cases h1 : (isP p (if x.f0 = 13 then 4 else 5) || isP q (if x.f0 = 13 then 4 else 5)) = true
      · rw [if_pos h1]
        exact ⟨by simp, fun y hy => by rw [List.mem_singleton.1 hy]; exact Nat.zero_le _⟩
      · rw [if_neg h1]
        by_cases h2 : isP p (if x.f0 = 13 then 5 else 4) = true
        · rw [if_pos h2]; exact g.up (by omega)
        · rw [if_neg h2]
          by_cases h3 : isP q (if x.f0 = 13 then 5 else 4) = true
          · rw [if_pos h3]; exact h.up (by omega)
          · rw [if_neg h3]; exact (h.app g).app (Bd.one hx)
  rw [if_neg c12]
  by_cases c6 : x.f0 = 6 ∨ x.f0 = 7 ∨ x.f0 = 8 ∨ x.f0 = 9 ∨ x.f0 = 10
  · rw [if_pos c6]
    have ef : ((l.map S66.mk).map (·.f0)).flatten = l.flatten := by rw [List.map_map]; congr 1; exact List.map_id'' (fun _ => rfl) l
    unfold textsP
    by_cases h1 : (l.map S66.mk).all (fun p => isP p.f0 1) = true
    · rw [if_pos h1]; exact Bd.truth _ _
    · rw [if_neg h1]
      by_cases h2 : sameVar (l.map S66.mk) = true
      · rw [if_pos h2]; exact Bd.truth _ _
      · rw [if_neg h2, ef]
        exact (Bd.flat hs).app (Bd.one hx)
  · rw [if_neg c6]
    unfold namedP
    by_cases h1 : x.f0 = 2 ∧ G.getB (rule_say.vrs vs) x.f1 = true ∧ (G.getT (rule_say.vrs vs) x.f1).size ≤ 1024
    · rw [if_pos h1]
      exact (Bd.one (x := ⟨1, G.getT (rule_say.vrs vs) x.f1⟩) (Nat.le_trans h1.2.2 (by decide))).up (by omega)
    · rw [if_neg h1]
      by_cases h2 : x.f0 = 3 ∧ G.getB (rule_say.vrs vs) x.f1 = true
      · rw [if_pos h2]; exact Bd.truth _ _
      · rw [if_neg h2]; exact (Bd.one (x := ⟨x.f0, x.f1⟩) hx).up (by omega)
end Go.Proofs.Ytinhlaiogkmkfaa.PA
end
section
/- Fold whole: what it answers, and what that says. -/
namespace Go.Proofs.Ytinhlaiogkmkfaa.PA
open Go.RowKit Go.Proofs.YtinhlaiogkmkfaaW.PrintWords Go.Proofs.YtinhlaiogkmkfaaW.PrintLast Go.Proofs.YtinhlaiogkmkfaaW.PrintMore
set_option linter.unusedVariables false
theorem St.ne {vs all : List S56} {C : List G.Prt} {V : List G.Vl} {P : List (List S45)} (h : St vs all C V P) : ∀ p ∈ P, p ≠ [] := by
  induction h with
  | nil => intro p hp; cases hp
  | snoc q v p _ hpt ih =>
    intro z hz
    rcases List.mem_append.1 hz with h1 | h1
    · exact ih z h1
    · rw [List.mem_singleton.1 h1]; exact hpt.nf.ne
theorem St.lens {vs all : List S56} {C : List G.Prt} {V : List G.Vl} {P : List (List S45)} (h : St vs all C V P) : C.length = P.length ∧ V.length = P.length := by
  induction h with
  | nil => exact ⟨rfl, rfl⟩
  | snoc q v p _ _ ih => simp [ih.1, ih.2]
theorem foldS_eq {vs : List S56} (x : S45) {P : List (List S45)} {k : Nat} (hv : vs.length < 4398046511104) (hk : vs.length + 30 < k) (hn : arityB x.f0 ≤ P.length) (hx : x.f1.size ≤ 140737488351232) (hs : ∀ p ∈ P, ∀ y ∈ p, y.f1.size ≤ 140737488351232)
    (hp : ∀ p ∈ P, p ≠ []) (hl : (P.map (·.length)).sum < 5864062014805) : foldS k vs x P = some (foldSp vs x P) ∧ ((foldSp vs x P).map (·.length)).sum ≤ (P.map (·.length)).sum + 1 ∧ ∀ p ∈ foldSp vs x P, ∀ y ∈ p, y.f1.size ≤ 140737488351232 := by
  have hd : (P.drop (P.length - arityB x.f0)).length = arityB x.f0 := by rw [List.length_drop]; omega
  have es : (P.map (·.length)).sum = ((P.take (P.length - arityB x.f0)).map (·.length)).sum + ((P.drop (P.length - arityB x.f0)).map (·.length)).sum := by
    rw [← List.sum_append, ← List.map_append, List.take_append_drop]
  have sd : ∀ p ∈ P.drop (P.length - arityB x.f0), ∀ y ∈ p, y.f1.size ≤ 140737488351232 := fun p h => hs p (List.mem_of_mem_drop h)
  have bd := foldXp_bd (vs := vs) x hd hx sd
  refine ⟨?_, ?_, ?_⟩
  · unfold foldS foldSp
    rw [arity_eq _ (by omega), Option.bind_some, if_pos ⟨by omega, by omega⟩, Int.toNat_natCast,
      foldX_eq x hv hk hd hx sd (fun p h => hp p (List.mem_of_mem_drop h)) (by omega)]
    rfl
  · unfold foldSp
    rw [List.map_append, List.sum_append]
    have := bd.1
    simp only [List.map_cons, List.map_nil, List.sum_cons, List.sum_nil]
    omega
  · intro p h
    unfold foldSp at h
    rcases List.mem_append.1 h with h1 | h1
    · exact hs p (List.mem_of_mem_take h1)
    · rw [List.mem_singleton.1 h1]; exact bd.2
theorem fold_run {vs more : List S56} {k : Nat} (hv : vs.length < 4398046511104) (hk : vs.length + 30 < k) : ∀ (t : List S45) (C : List G.Prt) (V : List G.Vl) (P : List (List S45)) (C' : List G.Prt),
    (∀ y ∈ t, y.f1.size ≤ 140737488351232) → St vs (vs ++ more) C V P → (∀ p ∈ P, ∀ y ∈ p, y.f1.size ≤ 140737488351232) → (P.map (·.length)).sum + t.length < 5864062014805 → G.runC (expr_Check.prs t) C = some C' →
    ∃ V', G.runV (rule_say.vrs (vs ++ more)) (expr_Check.prs t) V = some V' ∧ foldR k vs t P = some (foldRp vs t P) ∧ St vs (vs ++ more) C' V' (foldRp vs t P) ∧ ((foldRp vs t P).map (·.length)).sum ≤ (P.map (·.length)).sum + t.length ∧
      ∀ p ∈ foldRp vs t P, ∀ y ∈ p, y.f1.size ≤ 140737488351232 := by
  intro t
  induction t with
  | nil =>
    intro C V P C' _ h hs _ hc
    have e : some C = some C' := hc
    injection e with e
    subst e
    exact ⟨V, rfl, rfl, h, by show (P.map (·.length)).sum ≤ _; omega, hs⟩
  | cons x r ih =>
    intro C V P C' ht h hs hl hc
    have hc' : (G.stepC C x.f0 x.f1).bind (G.runC (expr_Check.prs r)) = some C' := hc
    rw [Option.bind_eq_some_iff] at hc'
    obtain ⟨C1, h1, h2⟩ := hc'
    simp only [List.length_cons] at hl
    have hx := ht x (by simp)
    obtain ⟨V1, v1, st1, an⟩ := h.step hx h1
    obtain ⟨f1, f2, f3⟩ := foldS_eq x hv hk an hx hs h.ne (by omega)
    obtain ⟨V2, v2, g1, g2, g3, g4⟩ := ih C1 V1 (foldSp vs x P) C' (fun y hy => ht y (by simp [hy])) st1 f3 (by omega) h2
    refine ⟨V2, ?_, ?_, g2, ?_, g4⟩
    · show (G.stepV _ x.f0 x.f1 V).bind (G.runV _ (expr_Check.prs r)) = _
      rw [v1]; exact v2
    · show (foldS k vs x P).bind (foldR k vs r) = _
      rw [f1]; exact g1
    · show ((foldRp vs r (foldSp vs x P)).map (·.length)).sum ≤ _
      simp only [List.length_cons]
      omega
/-- What is left of an expression. -/
def leftOf (vs : List S56) (t : List S45) : List S45 := (foldRp vs t []).headD []
theorem fold_eq {vs : List S56} {t : List S45} {k : Nat} (more : List S56) (hv : VarsFit vs) (hm : VarsFit (vs ++ more)) (hk : vs.length + 30 < k) (ht : StepsFit t) (hc : okC t = true) :
    rule_Fold.f k t vs = some (leftOf vs t, 0) ∧ (∃ q v, Pt vs (vs ++ more) q v (leftOf vs t) ∧ q.truth = true ∧ v.ok = sayB t (vs ++ more)) ∧ (leftOf vs t).length ≤ t.length ∧ StepsFit (leftOf vs t) := by
  obtain ⟨q, hq, hqt⟩ := G.checkB_run hc
  have hl : t.length ≤ 1024 := by have := G.check_len hc; simpa [expr_Check.prs] using this
  obtain ⟨V', v1, f1, st, f2, f3⟩ := fold_run (more := more) hv.len hk t [] [] [] [q] ht.each St.nil (fun p hp => by cases hp) (by have := ht.len; simpa using this) hq
  obtain ⟨V0, v, P0, p, rfl, eP, h0, hpt⟩ := St.unsnoc (C := []) (q := q) (by simpa using st)
  have hP0 : P0 = [] := List.length_eq_zero_iff.1 (by have := h0.lens.1; simpa using this.symm)
  have hV0 : V0 = [] := List.length_eq_zero_iff.1 (by have := h0.lens.2; rw [hP0] at this; simpa using this)
  subst hP0 hV0
  have el : leftOf vs t = p := by unfold leftOf; rw [eP]; rfl
  rw [eP] at f1 f2 f3
  simp only [List.nil_append, List.map_cons, List.map_nil, List.sum_cons, List.sum_nil] at f2
  have hlen : p.length ≤ t.length := by omega
  rw [el]
  refine ⟨?_, ⟨q, v, hpt, hqt, ?_⟩, hlen, ⟨by have := ht.len; omega, f3 p (by simp)⟩⟩
  · unfold rule_Fold.f
    rw [check_eq ht, Option.bind_some, hc, if_pos rfl, if_pos (by omega), f1, Option.bind_some]
    show (some p).bind _ = _
    rw [Option.bind_some, if_pos (by have := ht.len; omega)]
  · have e := sayV_eq ht hm hc
    unfold G.sayV at e
    rw [v1, Option.bind_some] at e
    have e2 : G.pop1 ([] ++ [v]) = some ([], v) := G.pop1_snoc [] v
    rw [e2] at e
    injection e
end Go.Proofs.Ytinhlaiogkmkfaa.PA
end
section
/- Contracts of Go's library, laid at this program by the kit's shelf (lay-plain.mjs). -/
/-
  DERIVED: THE SHELF's CONTRACTS AT THIS DUMP, IN PLAIN WORDS (tools/lay-plain.mjs out of 'TryShelf.lean', which tools/lay-shelf.mjs wrote): THE SAME DECLARATIONS UNDER THE SAME NAMES: 'import', 'namespace', 'open', 'def', 'theorem' AND NOTHING ELSE: no command of the shelf's: FOR A HAND-IN. Each laying: the table of numbers ('.._ren') and one theorem, a field a fact of the dump's own or the kernel's comparison; each contract: ONE APPLICATION.
-/
namespace Go.Proofs
open Go.Shelf
def Try.lays190_ren : Go.Shelf.Ren := ⟨fun | 190 => 47 | 125 => 68 | 258 => 67 | 128 => 93 | 129 => 94 | 302 => 84 | 303 => 85 | 304 => 86 | 305 => 87 | 306 => 88 | 307 => 89 | 308 => 90 | 309 => 91 | 310 => 92 | 333 => 103 | 329 => 104 | 330 => 105 | 334 => 106 | 335 => 107 | 336 => 108 | 344 => 119 | n => n, fun | 31 => 51 | 9 => 9 | 3 => 3 | 46 => 107 | 0 => 0 | 51 => 123 | 53 => 125 | 4 => 4 | 183 => 116 | 182 => 115 | 131 => 120 | 5 => 5 | 218 => 140 | 222 => 144 | 228 => 155 | 229 => 156 | n => n, fun | n => n⟩
theorem Try.lays190 : Go.Proofs.Lays.n190 Try.prog Try.lays190_ren := {
  mixed := by kernel_rfl
  f125 := Try.func68.trans (congrArg some (by kernel_rfl))
  f128 := Try.func93.trans (congrArg some (by kernel_rfl))
  f129 := Try.func94.trans (congrArg some (by kernel_rfl))
  f190 := Try.func47.trans (congrArg some (by kernel_rfl))
  f258 := Try.func67.trans (congrArg some (by kernel_rfl))
  f302 := Try.func84.trans (congrArg some (by kernel_rfl))
  f303 := Try.func85.trans (congrArg some (by kernel_rfl))
  f304 := Try.func86.trans (congrArg some (by kernel_rfl))
  f305 := Try.func87.trans (congrArg some (by kernel_rfl))
  f306 := Try.func88.trans (congrArg some (by kernel_rfl))
  f307 := Try.func89.trans (congrArg some (by kernel_rfl))
  f308 := Try.func90.trans (congrArg some (by kernel_rfl))
  f309 := Try.func91.trans (congrArg some (by kernel_rfl))
  f310 := Try.func92.trans (congrArg some (by kernel_rfl))
  f329 := Try.func104.trans (congrArg some (by kernel_rfl))
  f330 := Try.func105.trans (congrArg some (by kernel_rfl))
  f333 := Try.func103.trans (congrArg some (by kernel_rfl))
  f334 := Try.func106.trans (congrArg some (by kernel_rfl))
  f335 := Try.func107.trans (congrArg some (by kernel_rfl))
  f336 := Try.func108.trans (congrArg some (by kernel_rfl))
  f344 := Try.func119.trans (congrArg some (by kernel_rfl))
  t0 := Try.underlying0
  a0 := Try.isAgg0
  z0 := Try.sizeOf0
  v0 := Try.zeroValue0
  t3 := Try.underlying3
  a3 := Try.isAgg3
  z3 := Try.sizeOf3
  v3 := Try.zeroValue3
  t4 := Try.underlying4
  a4 := Try.isAgg4
  z4 := Try.sizeOf4
  v4 := Try.zeroValue4
  t5 := Try.underlying5
  a5 := Try.isAgg5
  z5 := Try.sizeOf5
  v5 := Try.zeroValue5
  t9 := Try.underlying9
  a9 := Try.isAgg9
  z9 := Try.sizeOf9
  v9 := Try.zeroValue9
  t31 := Try.underlying51
  a31 := Try.isAgg51
  z31 := Try.sizeOf51
  v31 := Try.zeroValue51
  t46 := Try.underlying107
  a46 := Try.isAgg107
  z46 := Try.sizeOf107
  v46 := Try.zeroValue107
  t51 := Try.underlying123
  a51 := Try.isAgg123
  z51 := Try.sizeOf123
  v51 := Try.zeroValue123
  t53 := Try.underlying125
  a53 := Try.isAgg125
  z53 := Try.sizeOf125
  v53 := Try.zeroValue125
  t131 := Try.underlying120
  a131 := Try.isAgg120
  z131 := Try.sizeOf120
  v131 := Try.zeroValue120
  t182 := Try.underlying115
  a182 := Try.isAgg115
  z182 := Try.sizeOf115
  v182 := Try.zeroValue115
  t183 := Try.underlying116
  a183 := Try.isAgg116
  z183 := Try.sizeOf116
  v183 := Try.zeroValue116
  t218 := Try.underlying140
  a218 := Try.isAgg140
  z218 := Try.sizeOf140
  v218 := Try.zeroValue140
  t222 := Try.underlying144
  a222 := Try.isAgg144
  z222 := Try.sizeOf144
  v222 := Try.zeroValue144
  t228 := Try.underlying155
  a228 := Try.isAgg155
  z228 := Try.sizeOf155
  v228 := Try.zeroValue155
  t229 := Try.underlying156
  a229 := Try.isAgg156
  z229 := Try.sizeOf156
  v229 := Try.zeroValue156 }
open Go.Sort Go.RowKit in
theorem Try.slices_Sort_string (blk off cap : Nat) (ss : List (List UInt8)) (w : World) (hH : Holds encStr w blk off ss.toArray) (hblk : blk < w.heap.size) (hsz : ss.length < 4611686018427387904) :
    Calls Try.prog 47 #[.slice (some ⟨blk, off, none⟩) ss.length cap] w fun e w' =>
      e = .returned (.tuple #[]) ∧ ∃ n os, w' = grow (putRow encStr (Sort.ahead w n) blk off (ss.mergeSort fun x y => decide (x ≤ y)).toArray) os := Any.slices_Sort_string Try.lays190 blk off cap ss w hH hblk hsz
def Try.lays194_ren : Go.Shelf.Ren := ⟨fun | 194 => 48 | n => n, fun | 31 => 51 | 9 => 9 | 3 => 3 | 4 => 4 | 0 => 0 | n => n, fun | n => n⟩
theorem Try.lays194 : Go.Proofs.Lays.n194 Try.prog Try.lays194_ren := {
  mixed := by kernel_rfl
  f194 := Try.func48.trans (congrArg some (by kernel_rfl))
  t0 := Try.underlying0
  a0 := Try.isAgg0
  z0 := Try.sizeOf0
  v0 := Try.zeroValue0
  t3 := Try.underlying3
  a3 := Try.isAgg3
  z3 := Try.sizeOf3
  v3 := Try.zeroValue3
  t4 := Try.underlying4
  a4 := Try.isAgg4
  z4 := Try.sizeOf4
  v4 := Try.zeroValue4
  t9 := Try.underlying9
  a9 := Try.isAgg9
  z9 := Try.sizeOf9
  v9 := Try.zeroValue9
  t31 := Try.underlying51
  a31 := Try.isAgg51
  z31 := Try.sizeOf51
  v31 := Try.zeroValue51 }
open Go.RowKit Go.Lib Go.Sort in
open Go.RowKit Go.Lib Go.Sort in
/-- slices.Compact at []string: "Compact replaces consecutive runs of equal elements with a single copy. This is like the uniq command found on Unix. Compact modifies the contents of the slice s and returns the modified slice, which may have a smaller length. Compact zeroes the elements between the new length and the original length. The result preserves the nilness of s.": IT RETURNS THE SLICE CUT TO 'Lib.compact zs'; ITS CELLS HOLD 'Lib.compact zs', THEN ZERO VALUES up to the old length; all else is as it was, but for the count of draws. IN THE WORDS OF slices.Sort's CONTRACT ('Holds', 'putRow'): so the everyday 'slices.Sort(xs); xs = slices.Compact(xs)' goes from the one contract to the other. It asks 'zs.length ≤ cap' (every slice's: the reslicing 's[:k]' looks at it). Length 0, nil: '.._empty'. (LAID: no walk: one application.) -/
theorem Try.slices_Compact_string (blk off cap : Nat) (zs : List (List UInt8)) (w : World) (hH : Holds encStr w blk off zs.toArray) (hsz : zs.length ≤ 9223372036854775807) (hcap : zs.length ≤ cap) :
    Calls Try.prog 48 #[.slice (some ⟨blk, off, none⟩) zs.length cap] w fun e w' => e = .returned (.slice (some ⟨blk, off, none⟩) (Lib.compact zs).length cap) ∧ ∃ q, w' = putRow encStr (Sort.ahead w q) blk off (Lib.compact zs ++ List.replicate (zs.length - (Lib.compact zs).length) []).toArray := Any.slices_Compact_string Try.lays194 blk off cap zs w hH hsz hcap
open Go.RowKit Go.Lib Go.Sort in
/-- The same at a slice of length 0, a nil one too: it comes back as it is. (LAID: no walk: one application.) -/
theorem Try.slices_Compact_string_empty (a : Option Addr) (cap : Nat) (w : World) :
    Calls Try.prog 48 #[.slice a 0 cap] w fun e w' => e = .returned (.slice a 0 cap) ∧ w' = w := Any.slices_Compact_string_empty Try.lays194 a cap w
open Go.RowKit Go.Lib Go.Sort in
open Go.RowKit Go.Sort in
/-- .. and plain. (LAID: no walk: one application.) -/
theorem Try.slices_Sort_string_none (p : Option Addr) (cap : Nat) (w : World) :
    Calls Try.prog 47 #[.slice p 0 cap] w fun e w' => e = .returned (.tuple #[]) ∧ w' = w := Any.slices_Sort_string_none Try.lays190 p cap w
end Go.Proofs
end
section
/- Rows of strings of the call's own: the library's sort, and what is twice, taken out. -/
namespace Go.Proofs.Ytinhlaiogkmkfaa.G
open Go.RowKit Go.Sort
set_option linter.unusedVariables false
set_option linter.unusedSimpArgs false
def strE : El Try.prog 9 51 ByteArray where
  enc s := [.string s]
  sz := 1
  wd := 16
  zero := .string ByteArray.empty
  hpos := by decide
  henc _ := rfl
  hone q u hu := by
    simp only [List.mem_cons, List.not_mem_nil, or_false] at hu
    rcases hu with rfl
    rfl
  hi := by kernel_rfl
  hzs := rfl
  hu := Try.underlying51
def unB (l : List UInt8) : ByteArray := ⟨l.toArray⟩
def toB (s : ByteArray) : List UInt8 := s.data.toList
theorem strE_cells (l : List ByteArray) : strE.cells l = l.map Value.string := by
  induction l with
  | nil => rfl
  | cons x l ih =>
    show strE.enc x ++ strE.cells l = _
    rw [ih]
    rfl
theorem own_holds {w : World} {base g n c : Nat} {zs : List (List UInt8)} (h : strE.Own w base (.slice (some ⟨g, 0, none⟩) n c) (zs.map unB)) : Holds encStr w g 0 zs.toArray := by
  intro j hj
  have hj' : j < zs.length := by simpa using hj
  have h1 : (zs.map unB)[j]? = some (unB zs[j]) := by rw [List.getElem?_map, List.getElem?_eq_getElem hj']; rfl
  have h2 := h.cell j _ h1 0 _ rfl
  refine ⟨?_, ?_⟩
  · rw [getElem!_pos _ j hj]
    have e : j * strE.sz + 0 = 0 + j := by show j * 1 + 0 = 0 + j; omega
    rw [e] at h2
    exact h2
  · rcases h.2 with ⟨hv, _⟩ | ⟨g', cap, cur, hv, hg, hh, _⟩
    · cases hv
    · injection hv with hA
      injection hA with hA
      injection hA with hA
      subst hA
      exact blkfree hh _
/-- The row, written over. -/
theorem own_putRow {w : World} {base g n c : Nat} {l : List ByteArray} (h : strE.Own w base (.slice (some ⟨g, 0, none⟩) n c) l) {zs : List (List UInt8)} (hl : zs.length = l.length) (q : Nat) :
    strE.Own (putRow encStr (Sort.ahead w q) g 0 zs.toArray) base (.slice (some ⟨g, 0, none⟩) n c) (zs.map unB) ∧ But (One g) w (putRow encStr (Sort.ahead w q) g 0 zs.toArray) := by
  rcases h with ⟨h1, ⟨hv, h0⟩ | ⟨g', cap, cur, hv, hg, hh, hc, hm, hcs, ht⟩⟩
  · cases hv
  · injection hv with hA hB hC
    injection hA with hA
    injection hA with hA
    subst hA hB hC
    constructor
    · refine ⟨by rw [strE_cells]; simp; show _ = _ * 1; omega, .inr ⟨g, c, putCells encStr 0 zs.toArray cur, by rw [List.length_map, hl], hg, ?_, by rw [List.length_map, hl]; exact hc, hm, by unfold putCells; rw [Array.size_mapIdx]; exact hcs, ?_⟩⟩
      · show ((Sort.ahead w q).heap.modify g (onCells (putCells encStr 0 zs.toArray)))[g]? = _
        rw [Array.getElem?_modify, if_pos rfl]
        show (w.heap[g]?).map _ = _
        rw [hh]
        rfl
      · have hle : (zs.map unB).length * strE.sz = zs.length := by rw [List.length_map]; show zs.length * 1 = _; omega
        have hcs' : cur.size = c := by rw [hcs]; show c * 1 = c; omega
        rw [hle, strE_cells]
        refine List.ext_getElem? fun j => ?_
        rw [List.getElem?_take]
        by_cases hj : j < zs.length
        · rw [if_pos hj, Array.getElem?_toList]
          unfold putCells
          rw [Array.getElem?_mapIdx, Array.getElem?_eq_getElem (by omega), Option.map_some, if_pos ⟨Nat.zero_le _, by simpa using hj⟩, List.getElem?_map, List.getElem?_map, List.getElem?_eq_getElem hj, Nat.sub_zero, getElem!_pos _ j (by simpa using hj)]
          rfl
        · rw [if_neg hj, List.getElem?_eq_none (by simp; omega)]
    · refine ⟨rfl, rfl, rfl, by simp, fun k hk hn => ?_⟩
      show ((Sort.ahead w q).heap.modify g _)[k]? = _
      rw [Array.getElem?_modify, if_neg (fun e => hn e.symm)]
      rfl
theorem but_grow (w : World) (os : Array Obj) : But No w (grow w os) := ⟨rfl, rfl, rfl, by simp, fun k hk _ => heap_grow_old w os hk⟩
theorem mem_compact {zs : List (List UInt8)} {x : List UInt8} : x ∈ Lib.compact zs ↔ x ∈ zs := by
  unfold Lib.compact Lib.compactUpTo
  rw [List.mem_map]
  constructor
  · rintro ⟨j, hj, rfl⟩
    rw [List.mem_filter, List.mem_range] at hj
    rw [getElem!_pos _ j (by simpa using hj.1)]
    simp
  · intro hx
    have H : ∀ n (j : Nat) (hj : j < zs.length), j ≤ n → zs[j] = x → ∃ a, a ∈ (List.range zs.length).filter (Lib.keeps zs.toArray) ∧ zs.toArray[a]! = x := by
      intro n
      induction n with
      | zero =>
        intro j hj hn e
        refine ⟨j, List.mem_filter.2 ⟨List.mem_range.2 hj, Lib.keeps_lt_one _ j (by omega)⟩, ?_⟩
        rw [getElem!_pos _ j (by simpa using hj)]
        simpa using e
      | succ n ih =>
        intro j hj hn e
        by_cases h0 : j = 0
        · exact ih j hj (by omega) e
        · by_cases h1 : zs.toArray[j]! = zs.toArray[j - 1]!
          · refine ih (j - 1) (by omega) (by omega) ?_
            rw [getElem!_pos _ j (by simpa using hj), getElem!_pos _ (j - 1) (by simp; omega)] at h1
            rw [← e]
            simpa using h1.symm
          · refine ⟨j, List.mem_filter.2 ⟨List.mem_range.2 hj, Lib.keeps_pos h1⟩, ?_⟩
            rw [getElem!_pos _ j (by simpa using hj)]
            simpa using e
    obtain ⟨j, hj, e⟩ := List.getElem_of_mem hx
    exact H j j hj (Nat.le_refl _) e
/-- Sorted, each once. -/
def sortB (l : List ByteArray) : List ByteArray := (Lib.compact ((l.map toB).mergeSort fun x y => decide (x ≤ y))).map unB
theorem mem_sortB {l : List ByteArray} {x : ByteArray} : x ∈ sortB l ↔ x ∈ l := by
  unfold sortB
  rw [List.mem_map]
  constructor
  · rintro ⟨a, ha, rfl⟩
    rw [mem_compact, List.mem_mergeSort, List.mem_map] at ha
    obtain ⟨b, hb, rfl⟩ := ha
    exact hb
  · intro hx
    exact ⟨toB x, by rw [mem_compact, List.mem_mergeSort, List.mem_map]; exact ⟨x, hx, rfl⟩, rfl⟩
theorem sortB_length (l : List ByteArray) : (sortB l).length ≤ l.length := by
  unfold sortB
  rw [List.length_map]
  refine Nat.le_trans (Lib.compact_length_le _) ?_
  rw [List.length_mergeSort, List.length_map]
  exact Nat.le_refl _
end Go.Proofs.Ytinhlaiogkmkfaa.G
end
section
/- expr.Names: the walk. -/
namespace Go.Proofs.Ytinhlaiogkmkfaa.G
open Go.RowKit
attribute [local simp, local go_sem] alloc_drewN setCell_drewN
set_option linter.unusedVariables false
set_option linter.unusedSimpArgs false
set_option maxRecDepth 100000
/-- Has a step a name? -/
def namedB (k : Int) : Bool := k == 2 || k == 3
def namesOf (t : List (Int × ByteArray)) : List ByteArray := (t.filter fun q => namedB q.1).map (·.2)
theorem namesOf_snoc (t : List (Int × ByteArray)) (i : Nat) (h : i < t.length) : namesOf (t.take (i + 1)) = namesOf (t.take i) ++ (if namedB t[i].1 then [t[i].2] else []) := by
  unfold namesOf
  rw [List.take_succ_eq_append_getElem h, List.filter_append, List.map_append]
  congr 1
  cases hb : namedB t[i].1 <;> simp [List.filter_cons, hb]
theorem namesOf_len (t : List (Int × ByteArray)) : (namesOf t).length ≤ t.length := by
  unfold namesOf
  rw [List.length_map]
  exact List.length_filter_le _ _
def namesB (t : List (Int × ByteArray)) : List ByteArray := if checkB t = true then sortB (namesOf t) else []
theorem checkB_len {t : List (Int × ByteArray)} (h : checkB t = true) : t.length ≤ 1024 := by
  unfold checkB at h
  rw [Bool.and_eq_true, decide_eq_true_eq] at h
  exact h.1
def NamesAt (w : World) (t : List (Int × ByteArray)) (gk : Nat) (v3 v11 : Value) (wr : World) : Prop :=
  ∃ (i : Nat) (v : Value), gk = t.length - i ∧ i ≤ t.length ∧ v11 = .int .i64 (i : Int) ∧ v3 = v ∧ But No w wr ∧ strE.Own wr w.heap.size v (namesOf (t.take i))
def NamesPost (w : World) (r : List ByteArray) (e : Ending) (w' : World) : Prop := ∃ v, e = .returned v ∧ strE.Own w' w.heap.size v r ∧ But No w w'
set_option maxHeartbeats 8000000 in
theorem names0 (A : Option Addr) (c : Nat) (t : List (Int × ByteArray)) (w : World) (hT : StepsIn w A t) (hc : t.length ≤ 9223372036854775807) (hsz : ∀ q ∈ t, q.2.size ≤ 9223372036854775807) :
    Calls Try.prog 30 #[.slice A t.length c] w (NamesPost w (namesB t)) := by
  obtain ⟨B, hB⟩ : ∃ B, checkB t = B := ⟨_, rfl⟩
  have HB := Lib.hid hB
  have HT := Lib.hid hT
  have HS := Lib.hid hsz
  clear hB hT hsz
  go_enter Try.func30, Try.ntmps30
  go_wp2_with fail
  refine (exprCheck0 A c t w HT.out hc HS.out B HB.out).mono ?_
  rintro e w1 ⟨rfl, hb1⟩
  have HB1 := Lib.hid (But.of_below (S := No) hb1)
  clear hb1
  cases B with
  | false =>
    have HN := Lib.hid (show namesB t = [] from by unfold namesB; rw [if_neg (by rw [HB.out]; decide)])
    go_wp2_with fail
    go_ret
    exact ⟨_, rfl, by rw [HN.out]; exact El.own_nil _ _, HB1.out⟩
  | true =>
    have h1024 := checkB_len HB.out
    have HN := Lib.hid (show namesB t = sortB (namesOf t) from by unfold namesB; rw [if_pos HB.out])
    go_wp2_with fail
    go_loopg [3, 11] t.length (fun gk v3 v11 wr => NamesAt w t gk v3 v11 wr)
    case atStart => exact ⟨0, _, rfl, Nat.zero_le _, rfl, rfl, HB1.out, by rw [List.take_zero]; exact El.own_nil _ _⟩
    case round =>
      obtain ⟨i, _, hgk, hi, rfl, rfl, hb, hO⟩ := hrel
      have hln : (namesOf (t.take i)).length ≤ i := Nat.le_trans (namesOf_len _) (by rw [List.length_take]; omega)
      obtain ⟨nm, hnm⟩ : ∃ nm, namesOf (t.take i) = nm := ⟨_, rfl⟩
      rw [hnm] at hO hln
      have HNM := Lib.hid hnm
      obtain ⟨A', c', rfl⟩ := hO.slice
      have HGK := Lib.hid hgk
      have HBt := Lib.hid hb
      have HO := Lib.hid hO
      clear hgk hb hO hnm
      by_cases hlt : i < t.length
      · obtain ⟨ad, hA, k1, k2⟩ := HT.out i hlt
        have k3 := HS.out t[i] (List.getElem_mem hlt)
        cases hA
        have k1' := HBt.out.cell_some k1 (fun c => c)
        have k2' := HBt.out.cell_some k2 (fun c => c)
        have hlt' : (i : Int) < (t.length : Int) := by omega
        have dl : decide ((i : Int) < (t.length : Int)) = true := by simp; omega
        have hn := namesOf_snoc t i hlt
        obtain ⟨⟨kk, tx⟩, hq⟩ : ∃ q, t[i] = q := ⟨_, rfl⟩
        rw [hq] at k1' k2' k3 hn
        dsimp only at k1' k2' k3 hn
        rw [HNM.out] at hn
        have HNN := Lib.hid hn
        clear k1 k2 hq hn
        by_cases e2 : kk = 2
        · subst e2
          have HNX := Lib.hid (show namesOf (t.take (i + 1)) = nm ++ [tx] from HNN.out)
          have hws := HBt.out.size
          clear HNN
          go_wp2_with (at_builtin; refine strE.append1L rfl _ _ rfl rfl w.heap.size (.slice A' nm.length c') nm rfl ((HO.out.new ((But.refl No wr).alloc _)).alloc _) (wr.heap.size + 1) tx #[.string tx] rfl rfl (heap_alloc2_new wr _ _) (by show (nm.length + 1) * (16 + 1) ≤ _; omega) (by simp; omega) ?_; intro g2 c2 w2 hown hgrow _)
          have HB2 := Lib.hid (El.Own.grown ((HBt.out.alloc _).alloc _) ((HO.out.new ((But.refl No wr).alloc _)).alloc _) hgrow (Nat.le_refl _))
          have HO2 := Lib.hid hown
          clear hown hgrow
          go_wp2_with fail
          go_roundg (t.length - (i + 1))
          case measure => rw [HGK.out]; omega
          case rel => exact ⟨i + 1, _, rfl, by omega, by go_num, rfl, HB2.out, by rw [HNX.out]; exact HO2.out⟩
        · by_cases e3 : kk = 3
          · subst e3
            have HNX := Lib.hid (show namesOf (t.take (i + 1)) = nm ++ [tx] from HNN.out)
            have hws := HBt.out.size
            clear HNN
            go_wp2_with (at_builtin; refine strE.append1L rfl _ _ rfl rfl w.heap.size (.slice A' nm.length c') nm rfl ((HO.out.new ((But.refl No wr).alloc _)).alloc _) (wr.heap.size + 1) tx #[.string tx] rfl rfl (heap_alloc2_new wr _ _) (by show (nm.length + 1) * (16 + 1) ≤ _; omega) (by simp; omega) ?_; intro g2 c2 w2 hown hgrow _)
            have HB2 := Lib.hid (El.Own.grown ((HBt.out.alloc _).alloc _) ((HO.out.new ((But.refl No wr).alloc _)).alloc _) hgrow (Nat.le_refl _))
            have HO2 := Lib.hid hown
            clear hown hgrow
            go_wp2_with fail
            go_roundg (t.length - (i + 1))
            case measure => rw [HGK.out]; omega
            case rel => exact ⟨i + 1, _, rfl, by omega, by go_num, rfl, HB2.out, by rw [HNX.out]; exact HO2.out⟩
          · have d2 : (kk == 2) = false := by simpa using e2
            have d3 : (kk == 3) = false := by simpa using e3
            have HNX := Lib.hid (show namesOf (t.take (i + 1)) = nm from by rw [HNN.out, show namedB kk = false from by unfold namedB; rw [d2, d3]; rfl]; simp)
            clear HNN e2 e3
            go_wp2_with fail
            go_roundg (t.length - (i + 1))
            case measure => rw [HGK.out]; omega
            case rel => exact ⟨i + 1, _, rfl, by omega, by go_num, rfl, HBt.out.alloc _, by rw [HNX.out]; exact HO.out.new ((But.refl No wr).alloc _)⟩
      · obtain rfl : i = t.length := by omega
        have hlt' : ¬ (t.length : Int) < (t.length : Int) := by omega
        have HNL := Lib.hid (show namesOf t = nm from by rw [← HNM.out, List.take_length])
        have hws := HBt.out.size
        by_cases h0 : nm.length = 0
        · have HR := Lib.hid (show namesB t = [] from by
            rw [HN.out, HNL.out]
            refine List.eq_nil_of_length_eq_zero ?_
            have := sortB_length nm
            omega)
          have HO0 := Lib.hid (show strE.Own wr w.heap.size (.slice A' 0 c') [] from by
            have := HO.out
            rw [List.eq_nil_of_length_eq_zero h0] at this
            exact this)
          rw [h0]
          clear h0
          go_wp2_with (first | (go_at_call 47; refine (Try.slices_Sort_string_none _ _ _).mono ?_; rintro e w' ⟨rfl, rfl⟩) | (go_at_call 48; refine (Try.slices_Compact_string_empty _ _ _).mono ?_; rintro e w' ⟨rfl, rfl⟩))
          go_ret
          exact ⟨_, rfl, by rw [HR.out]; exact HO0.out, HBt.out⟩
        · obtain ⟨gs, cs, hsl, hgs, hgsl, hcap, hmx⟩ := HO.out.lit (by omega)
          injection hsl with e1 _ e2
          subst e1 e2
          obtain ⟨zs, hz⟩ : ∃ zs : List (List UInt8), nm = zs.map unB := ⟨nm.map toB, by rw [List.map_map, show (unB ∘ toB) = id from rfl, List.map_id]⟩
          obtain ⟨ss, hss⟩ : ∃ ss, zs.mergeSort (fun x y => decide (x ≤ y)) = ss := ⟨_, rfl⟩
          have hl : ss.length = zs.length := by rw [← hss, List.length_mergeSort]
          have hzl : nm.length = zs.length := by rw [hz, List.length_map]
          have HR := Lib.hid (show namesB t = (Lib.compact ss).map unB from by
            rw [HN.out, HNL.out, hz, ← hss]
            unfold sortB
            rw [List.map_map, show (toB ∘ unB) = id from rfl, List.map_id])
          rw [hzl] at hcap
          have hO := HO.out
          rw [hz] at hO
          rw [List.length_map] at hO
          have HOz := Lib.hid hO
          have HSS := Lib.hid hss
          have HL := Lib.hid hl
          rw [hzl]
          have hln2 : zs.length ≤ t.length := by omega
          have HRR : Hid (∀ (n : Nat) (os : Array Obj), strE.Own (Sort.grow (Sort.putRow encStr (Sort.ahead wr n) gs 0 ss.toArray) os) w.heap.size (.slice (some ⟨gs, 0, none⟩) zs.length c') (ss.map unB) ∧ But (One gs) wr (Sort.grow (Sort.putRow encStr (Sort.ahead wr n) gs 0 ss.toArray) os)) := Lib.hid (fun n os => by
            have h := own_putRow HOz.out (zs := ss) (by rw [HL.out, List.length_map]) n
            exact ⟨h.1.new (but_grow _ os), h.2.trans ((but_grow _ os).mono (fun _ _ c => c.elim))⟩)
          clear hz hss hl hzl hO h0 hln
          go_wp2_with fail
          refine (Try.slices_Sort_string gs 0 c' zs wr (own_holds HOz.out) hgsl (by omega)).mono ?_
          rintro e w2 ⟨rfl, n, os, rfl⟩
          rw [HSS.out]
          obtain ⟨w2, hw2⟩ : ∃ w2, Sort.grow (Sort.putRow encStr (Sort.ahead wr n) gs 0 ss.toArray) os = w2 := ⟨_, rfl⟩
          have hrr := HRR.out n os
          rw [hw2] at hrr
          have HO2 := Lib.hid hrr.1
          have HB2 := Lib.hid (HBt.out.trans_ hrr.2 (fun b hb e => absurd hb (by unfold One at e; omega)))
          rw [hw2]
          clear hrr hw2
          have hcmp := Try.slices_Compact_string gs 0 c' ss w2 (own_holds HO2.out) (by rw [HL.out]; omega) (by rw [HL.out]; exact hcap)
          rw [HL.out] at hcmp
          have HC := Lib.hid hcmp
          clear hcmp
          go_wp2_with fail
          refine HC.out.mono ?_
          rintro e w3 ⟨rfl, q, rfl⟩
          have hcl : (Lib.compact ss).length ≤ ss.length := Lib.compact_length_le ss
          have h3 := own_putRow HO2.out (zs := Lib.compact ss ++ List.replicate (zs.length - (Lib.compact ss).length) []) (by rw [List.length_append, List.length_replicate, List.length_map]; have := HL.out; omega) q
          obtain ⟨w3, hw3⟩ : ∃ w3, Sort.putRow encStr (Sort.ahead w2 q) gs 0 (Lib.compact ss ++ List.replicate (zs.length - (Lib.compact ss).length) []).toArray = w3 := ⟨_, rfl⟩
          rw [hw3] at h3
          rw [hw3]
          have hO3 := h3.1
          rw [List.map_append] at hO3
          have h4 := hO3.shrink
          rw [List.length_map] at h4
          have HO3 := Lib.hid h4
          have HB3 := Lib.hid (HB2.out.trans_ h3.2 (fun b hb e => absurd hb (by unfold One at e; omega)))
          clear hw3 h3 hO3 h4 hcl
          go_wp2_with fail
          go_ret
          exact ⟨_, rfl, by rw [HR.out]; exact HO3.out, HB3.out⟩
end Go.Proofs.Ytinhlaiogkmkfaa.G
end
section
-- Printed by a program of this session over the kit's print, with contracts of this session's own. Not trusted: Lean checks it.
namespace Go.Proofs.Ytinhlaiogkmkfaa.PA
open Go.RowKit Go.Proofs.YtinhlaiogkmkfaaW.PrintWords Go.Proofs.YtinhlaiogkmkfaaW.PrintLast Go.Proofs.YtinhlaiogkmkfaaW.PrintMore
attribute [local go_sem] max2_int min2_int max_two min_two max_three min_three max_four min_four   -- for this text's walks alone
set_option linter.unusedVariables false
set_option linter.unusedSimpArgs false

/-! ### expr_Names: function 30 (a contract of this session) -/
theorem expr_Names.own {w : World} {base : Nat} {v : Value} {l : List ByteArray} (h : G.strE.Own w base v l) : Kd.R Kd.string 9 w base (fun _ => True) v l := by
  refine ⟨fun _ _ => trivial, _, h, by rw [G.strE.cells_length]; rfl, fun j p hj => ?_⟩
  rw [G.strE_cells]
  show ((l.map Value.string).drop (j * 1)).take 1 = [Value.string p]
  have hj' : j < l.length := (List.getElem?_eq_some_iff.1 hj).1
  have e : l[j] = p := (List.getElem?_eq_some_iff.1 hj).2
  rw [Nat.mul_one, List.drop_eq_getElem_cons (by simpa using hj')]
  simp [e]
def expr_Names.prs (l : List S45) : List (Int × ByteArray) := l.map fun x => (x.f0, x.f1)
theorem expr_Names.inn {w : World} {A : Option Addr} {l : List S45} (h : Kd.C k45 w A l.length l) : G.StepsIn w A (expr_Names.prs l) := by
  intro i hi
  have hi' : i < l.length := by simpa [expr_Names.prs] using hi
  obtain ⟨ad, e, h1, h2⟩ := at_T45 h (i : Int) (by omega) (by omega)
  have e1 : rd_T45 l (i : Int) = l[i] := by unfold rd_T45; simp [hi']
  rw [e1] at h1 h2
  exact ⟨ad, e, by simpa [expr_Names.prs] using h1, by simpa [expr_Names.prs] using h2⟩
def expr_Names.fit (l : List S45) : Bool := decide (l.length ≤ 9223372036854775807) && l.all fun x => decide (x.f1.size ≤ 9223372036854775807)
theorem expr_Names.fits {l : List S45} (h : expr_Names.fit l = true) : l.length ≤ 9223372036854775807 ∧ ∀ q ∈ expr_Names.prs l, q.2.size ≤ 9223372036854775807 := by
  unfold expr_Names.fit at h
  rw [Bool.and_eq_true, decide_eq_true_eq, List.all_eq_true] at h
  refine ⟨h.1, fun q hq => ?_⟩
  obtain ⟨x, hx, rfl⟩ := List.mem_map.1 hq
  have := h.2 x hx
  simpa using this
def expr_Names.f (l0 : List S45) : Option (List ByteArray) := if expr_Names.fit l0 = true then some (G.namesB (expr_Names.prs l0)) else none
theorem expr_Names.calls (A0 : Option Addr) (c0 : Nat) (l0 : List S45) (r : List ByteArray) (w : World) (hr0 : Kd.C k45 w A0 l0.length l0) (hc0 : l0.length ≤ c0) (h : expr_Names.f l0 = some r) :
    Calls Try.prog 30 #[.slice A0 l0.length c0] w fun e w' => ∃ v0_ : Value, e = .returned (v0_) ∧ Kd.R Kd.string 9 w' w.heap.size (fun _ => True) v0_ r ∧ Below w.heap.size w w' := by
  unfold expr_Names.f at h
  by_cases h0 : expr_Names.fit l0 = true
  · rw [if_pos h0] at h
    have h1 := expr_Names.fits h0
    have hl : (expr_Names.prs l0).length = l0.length := by simp [expr_Names.prs]
    have := G.names0 A0 c0 (expr_Names.prs l0) w (expr_Names.inn hr0) (by rw [hl]; exact h1.1) h1.2
    rw [hl] at this
    refine this.mono ?_
    rintro e w' ⟨v, he, hO, hb⟩
    rw [Option.some.inj h] at hO
    exact ⟨v, he, expr_Names.own hO, hb.belowNo⟩
  · rw [if_neg h0] at h
    cases h

/-! ### shuttleref10_Index: function 49 -/
def shuttleref10_Index.l0 : Nat → List (S56) → ByteArray → Int → Option (Int)
  | 0, _, _, _ => none
  | k + 1, x0, x1, x5 => if x5 < (x0.length : Int) then (if 0 ≤ x5 then (if ((rd_T56 x0 x5).f0).toList = x1.toList then (some x5) else (shuttleref10_Index.l0 k x0 x1 (wrap64 (x5 + 1)))) else (none)) else (some (-1))
def shuttleref10_Index.f (k : Nat) (l0 : List (S56)) (a1 : ByteArray) : Option (Int) := shuttleref10_Index.l0 k l0 a1 0
theorem shuttleref10_Index.mono_l : ∀ k, (∀ y0 y1 y2, LeO (shuttleref10_Index.l0 k y0 y1 y2) (shuttleref10_Index.l0 (k + 1) y0 y1 y2))
  | 0 => fun _ _ _ r h => by simp [shuttleref10_Index.l0] at h
  | k + 1 => by
    have ih0 := shuttleref10_Index.mono_l k
    · intro y0 y1 y2
      unfold shuttleref10_Index.l0
      repeat' first
      | (with_reducible exact ih0 _ _ _)
      | (with_reducible exact LeO.refl _)
      | (with_reducible exact LeO.none _)
      | (with_reducible refine LeO.ite ?_ ?_)
      | (with_reducible refine LeO.bind ?_ (fun _ => ?_))
      | exact ih0 _ _ _
      | exact LeO.none _
      | refine LeO.ite ?_ ?_
      | refine LeO.bind ?_ (fun _ => ?_)
theorem shuttleref10_Index.mono : ∀ a0 a1 k, LeO (shuttleref10_Index.f k a0 a1) (shuttleref10_Index.f (k + 1) a0 a1) := by
  intro a0 a1 k
  have ih0 := shuttleref10_Index.mono_l k
  unfold shuttleref10_Index.f
  repeat' first
      | (with_reducible exact ih0 _ _ _)
      | (with_reducible exact LeO.refl _)
      | (with_reducible exact LeO.none _)
      | (with_reducible refine LeO.ite ?_ ?_)
      | (with_reducible refine LeO.bind ?_ (fun _ => ?_))
      | exact ih0 _ _ _
      | exact LeO.none _
      | refine LeO.ite ?_ ?_
      | refine LeO.bind ?_ (fun _ => ?_)
set_option maxHeartbeats 8000000 in
set_option maxRecDepth 100000 in
theorem shuttleref10_Index.calls (k : Nat) (A0 : Option Addr) (c0 : Nat) (l0 : List (S56)) (a1 : ByteArray) (r : Int) (w : World) (hr0 : Kd.C k56 w A0 l0.length l0) (hc0 : l0.length ≤ c0) (h : shuttleref10_Index.f k l0 a1 = some r) :
    Calls Try.prog 49 #[.slice A0 l0.length c0, .string a1] w fun e w' => e = .returned (.int .i64 r) ∧ Drawn0 w w' := by
  have HR0 := Aside0.mk hr0
  have HC0 := Aside0.mk hc0
  clear hr0 hc0
  have H : (shuttleref10_Index.l0 k l0 a1 0) = some r := h
  clear h
  have H' := Aside0.mk H
  clear H
  go_enter Try.func49, Try.ntmps49
  go_wp2
  go_loopg [5] k (fun kq v5 w' => ∃ (x5_1 : Int), v5 = .int .i64 x5_1 ∧ Aside0 (shuttleref10_Index.l0 kq l0 a1 x5_1 = some r) ∧ Aside0 (kq ≤ k) ∧ Drawn0 w w')
  case atStart => exact ⟨(0), (by first | rfl | (simp; done) | (simp [*]; done)), H', ⟨Nat.le_refl _⟩, by repeat (first | exact Drawn0.refl _ | apply Drawn0.step)⟩
  case round =>
    clear H'
    try clear p2
    obtain ⟨x5_1, rfl, HA, HK1, ⟨m1, rfl⟩⟩ := hrel
    cases gk with
    | zero => exact absurd HA.out (by simp [shuttleref10_Index.l0])
    | succ k1 =>
      have H := HA.out
      clear HA
      simp only [shuttleref10_Index.l0] at H
      by_cases c3 : x5_1 < (l0.length : Int)
      · rw [if_pos c3] at H
        have c3b0 : decide (x5_1 < (l0.length : Int)) = true := decide_eq_true c3
        clear c3
        by_cases c4 : 0 ≤ x5_1
        · rw [if_pos c4] at H
          have c4b0 : decide (0 ≤ x5_1) = true := decide_eq_true c4
          clear c4
          by_cases c5 : ((rd_T56 l0 x5_1).f0).toList = a1.toList
          · rw [if_pos c5] at H
            have c5b0 : (((rd_T56 l0 x5_1).f0).toList == a1.toList) = true := beq_iff_eq.mpr c5
            have c5b1 : (((rd_T56 l0 x5_1).f0).toList != a1.toList) = false := bne_eq_false_iff_eq.mpr c5
            clear c5
            obtain rfl := Option.some.inj H
            have p257 : 0 ≤ (x5_1 : Int) := of_decide_eq_true (by first | (with_reducible assumption) | assumption)
            have q257 : x5_1 < (l0.length : Int) := of_decide_eq_true (by first | (with_reducible assumption) | assumption)
            obtain ⟨ad257, e257, hx257_0, hx257_1⟩ := at_T56 HR0.out x5_1 p257 q257
            cases e257
            replace p257 := eq_true p257
            replace q257 := eq_true q257
            go_wp2
            go_ret
            exact ⟨by first | rfl | (simp; done) | (simp [*]; done), by repeat (first | exact Drawn0.refl _ | apply Drawn0.step)⟩
          · rw [if_neg c5] at H
            have c5b0 : (((rd_T56 l0 x5_1).f0).toList == a1.toList) = false := beq_eq_false_iff_ne.mpr c5
            have c5b1 : (((rd_T56 l0 x5_1).f0).toList != a1.toList) = true := bne_iff_ne.mpr c5
            have H' := Aside0.mk H
            clear H
            have p257 : 0 ≤ (x5_1 : Int) := of_decide_eq_true (by first | (with_reducible assumption) | assumption)
            have q257 : x5_1 < (l0.length : Int) := of_decide_eq_true (by first | (with_reducible assumption) | assumption)
            obtain ⟨ad257, e257, hx257_0, hx257_1⟩ := at_T56 HR0.out x5_1 p257 q257
            cases e257
            replace p257 := eq_true p257
            replace q257 := eq_true q257
            go_wp2
            go_roundg k1
            case measure => have := HK1.out; omega
            case rel => exact ⟨(wrap64 (x5_1 + 1)), (by first | rfl | (simp; done) | (simp [*]; done)), H', ⟨by have := HK1.out; omega⟩, by repeat (first | exact Drawn0.refl _ | apply Drawn0.step)⟩
        · rw [if_neg c4] at H
          exact absurd H (by simp)
      · rw [if_neg c3] at H
        have c3b0 : decide (x5_1 < (l0.length : Int)) = false := decide_eq_false c3
        clear c3
        obtain rfl := Option.some.inj H
        go_wp2
        go_ret
        exact ⟨by first | rfl | (simp; done) | (simp [*]; done), by repeat (first | exact Drawn0.refl _ | apply Drawn0.step)⟩

/-! ### shuttleref10_Get: function 31 -/
def shuttleref10_Get.f (k : Nat) (l0 : List (S56)) (a1 : ByteArray) : Option (ByteArray × Bool) := (shuttleref10_Index.f k l0 a1).bind fun t258 => (if t258 ≥ 0 then (if 0 ≤ t258 then (if t258 < (l0.length : Int) then (some ((rd_T56 l0 t258).f1, true)) else (none)) else (none)) else (some ((⟨#[]⟩ : ByteArray), false)))
theorem shuttleref10_Get.mono : ∀ a0 a1 k, LeO (shuttleref10_Get.f k a0 a1) (shuttleref10_Get.f (k + 1) a0 a1) := by
  intro a0 a1 k
  unfold shuttleref10_Get.f
  repeat' first
      | (with_reducible exact shuttleref10_Index.mono _ _ _)
      | (with_reducible exact LeO.refl _)
      | (with_reducible exact LeO.none _)
      | (with_reducible refine LeO.ite ?_ ?_)
      | (with_reducible refine LeO.bind ?_ (fun _ => ?_))
      | exact shuttleref10_Index.mono _ _ _
      | exact LeO.none _
      | refine LeO.ite ?_ ?_
      | refine LeO.bind ?_ (fun _ => ?_)
set_option maxHeartbeats 8000000 in
set_option maxRecDepth 100000 in
theorem shuttleref10_Get.calls (k : Nat) (A0 : Option Addr) (c0 : Nat) (l0 : List (S56)) (a1 : ByteArray) (r1 : ByteArray) (r2 : Bool) (w : World) (hr0 : Kd.C k56 w A0 l0.length l0) (hc0 : l0.length ≤ c0) (h : shuttleref10_Get.f k l0 a1 = some (r1, r2)) :
    Calls Try.prog 31 #[.slice A0 l0.length c0, .string a1] w fun e w' => e = .returned (.tuple #[.string r1, .bool r2]) ∧ Drawn0 w w' := by
  have HR0 := Aside0.mk hr0
  have HC0 := Aside0.mk hc0
  clear hr0 hc0
  have H : ((shuttleref10_Index.f k l0 a1).bind fun t258 => (if t258 ≥ 0 then (if 0 ≤ t258 then (if t258 < (l0.length : Int) then (some ((rd_T56 l0 t258).f1, true)) else (none)) else (none)) else (some ((⟨#[]⟩ : ByteArray), false)))) = some (r1, r2) := h
  clear h
  replace H := Option.bind_eq_some_iff.mp H
  obtain ⟨t258, A30, H⟩ := H
  replace H : (if t258 ≥ 0 then (if 0 ≤ t258 then (if t258 < (l0.length : Int) then (some ((rd_T56 l0 t258).f1, true)) else (none)) else (none)) else (some ((⟨#[]⟩ : ByteArray), false))) = some (r1, r2) := H
  have A3 := Aside0.mk A30
  clear A30
  by_cases c4 : t258 ≥ 0
  · rw [if_pos c4] at H
    have c4b0 : decide (0 ≤ t258) = true := decide_eq_true c4
    clear c4
    by_cases c5 : 0 ≤ t258
    · rw [if_pos c5] at H
      have c5b0 : decide (0 ≤ t258) = true := decide_eq_true c5
      clear c5
      by_cases c6 : t258 < (l0.length : Int)
      · rw [if_pos c6] at H
        have c6b0 : decide (t258 < (l0.length : Int)) = true := decide_eq_true c6
        clear c6
        simp only [Option.some.injEq, Prod.mk.injEq] at H
        obtain ⟨rfl, rfl⟩ := H
        go_enter Try.func31, Try.ntmps31
        go_wp2_with (first | ((with_reducible refine gate_callee (f := 49) rfl ?_); refine goesL_ (some 9) rfl rfl Try.func49 (by kernel_rfl) rfl #[.slice A0 l0.length c0, .string a1] rfl (by (try simp only [List.map_toArray, List.map_cons, List.map_nil]); first | done | rfl | (simp only [List.length_drop, List.length_take]; rfl)) ?_; (with_reducible refine (shuttleref10_Index.calls k _ _ l0 a1 t258 _ ?side1 ?side2 A3.out).mono ?_); (case side1 => repeat (first | exact HR0.out | (with_reducible refine Kd.C_alloc ?_ _) | (with_reducible refine Kd.C_drewN ?_ _) | (with_reducible refine Kd.C_drew ?_))); (case side2 => exact HC0.out); rintro e w' ⟨rfl, ⟨nd, rfl⟩⟩; refine ⟨_, rfl, ?_⟩; have p259 : 0 ≤ (t258 : Int) := of_decide_eq_true (by first | (with_reducible assumption) | assumption); have q259 : t258 < (l0.length : Int) := of_decide_eq_true (by first | (with_reducible assumption) | assumption); obtain ⟨ad259, e259, hx259_0, hx259_1⟩ := at_T56 HR0.out t258 p259 q259; cases e259; replace p259 := eq_true p259; replace q259 := eq_true q259))
        go_ret2
        exact ⟨by first | rfl | (simp; done) | (simp [*]; done), by repeat (first | exact Drawn0.refl _ | apply Drawn0.step)⟩
      · rw [if_neg c6] at H
        exact absurd H (by simp)
    · rw [if_neg c5] at H
      exact absurd H (by simp)
  · rw [if_neg c4] at H
    have c4b0 : decide (0 ≤ t258) = false := decide_eq_false c4
    clear c4
    simp only [Option.some.injEq, Prod.mk.injEq] at H
    obtain ⟨rfl, rfl⟩ := H
    go_enter Try.func31, Try.ntmps31
    go_wp2_with (first | ((with_reducible refine gate_callee (f := 49) rfl ?_); refine goesL_ (some 9) rfl rfl Try.func49 (by kernel_rfl) rfl #[.slice A0 l0.length c0, .string a1] rfl (by (try simp only [List.map_toArray, List.map_cons, List.map_nil]); first | done | rfl | (simp only [List.length_drop, List.length_take]; rfl)) ?_; (with_reducible refine (shuttleref10_Index.calls k _ _ l0 a1 t258 _ ?side1 ?side2 A3.out).mono ?_); (case side1 => repeat (first | exact HR0.out | (with_reducible refine Kd.C_alloc ?_ _) | (with_reducible refine Kd.C_drewN ?_ _) | (with_reducible refine Kd.C_drew ?_))); (case side2 => exact HC0.out); rintro e w' ⟨rfl, ⟨nd, rfl⟩⟩; refine ⟨_, rfl, ?_⟩))
    go_ret2
    exact ⟨by first | rfl | (simp; done) | (simp [*]; done), by repeat (first | exact Drawn0.refl _ | apply Drawn0.step)⟩

end Go.Proofs.Ytinhlaiogkmkfaa.PA
end
section
/- With all its names known an expression folds to true or false. -/
namespace Go.Proofs.Ytinhlaiogkmkfaa.PA
open Go.RowKit Go.Proofs.YtinhlaiogkmkfaaW.PrintWords Go.Proofs.YtinhlaiogkmkfaaW.PrintLast Go.Proofs.YtinhlaiogkmkfaaW.PrintMore
set_option linter.unusedVariables false
theorem bt_ext {a b : ByteArray} (h : a.toList = b.toList) : a = b := by
  rw [ByteArray.toList_eq, ByteArray.toList_eq] at h
  cases a
  cases b
  simp at h
  subst h
  rfl
theorem bt_nil {a : ByteArray} (h : a.toList = []) : a = (⟨#[]⟩ : ByteArray) := bt_ext (h.trans (by decide +kernel))
/-- A part of mark q is a truth or a text. -/
def Kn (q : G.Prt) (p : List S45) : Prop := (q.truth = true ∧ ∃ b, p = truthP b) ∨ (q.truth = false ∧ ∃ tx, p = [⟨1, tx⟩])
inductive Ks : List G.Prt → List (List S45) → Prop where
  | nil : Ks [] []
  | snoc {C : List G.Prt} {P : List (List S45)} (q : G.Prt) (p : List S45) : Ks C P → Kn q p → Ks (C ++ [q]) (P ++ [p])
theorem Ks.unsnoc {C : List G.Prt} {q : G.Prt} {P : List (List S45)} (h : Ks (C ++ [q]) P) : ∃ P0 p, P = P0 ++ [p] ∧ Ks C P0 ∧ Kn q p := by
  generalize hC : C ++ [q] = D at h
  cases h with
  | nil => simp at hC
  | snoc q' p h1 h2 =>
    obtain ⟨rfl, e⟩ := List.append_inj' hC rfl
    simp at e
    subst e
    exact ⟨_, p, rfl, h1, h2⟩
/-- Is a step's name known, and its value short? -/
def KnownS (vs : List S56) (x : S45) : Prop := G.namedB x.f0 = true → G.getB (rule_say.vrs vs) x.f1 = true ∧ (G.getT (rule_say.vrs vs) x.f1).size ≤ 1024
theorem isP_truth (b : Bool) (k : Int) : isP (truthP b) k = ((if b then (4 : Int) else 5) == k) := rfl
theorem Kn.named {vs : List S56} {x : S45} (hk : KnownS vs x) (ar : arityB x.f0 = 0) {q : G.Prt} (hc : G.stepC [] x.f0 x.f1 = some [q]) : Kn q (namedP vs x.f0 x.f1) := by
  unfold G.stepC at hc
  simp only [] at hc
  by_cases c1 : x.f0 = 1
  · rw [if_pos c1] at hc
    by_cases cs : x.f1.size ≤ 1024
    · rw [if_pos cs] at hc
      have eq : q = ⟨false, true, x.f1⟩ := by simpa using hc.symm
      have e : namedP vs x.f0 x.f1 = [⟨x.f0, x.f1⟩] := by unfold namedP; rw [if_neg (by omega), if_neg (by omega)]
      rw [e, eq]
      exact .inr ⟨rfl, x.f1, by rw [c1]⟩
    · rw [if_neg cs] at hc; cases hc
  rw [if_neg c1] at hc
  by_cases c2 : x.f0 = 2
  · rw [if_pos c2] at hc
    have hn := hk (by unfold G.namedB; rw [c2]; rfl)
    have e : namedP vs x.f0 x.f1 = [⟨1, G.getT (rule_say.vrs vs) x.f1⟩] := by unfold namedP; rw [if_pos ⟨c2, hn.1, hn.2⟩]
    have eq : q = ⟨false, false, G.mt⟩ := by
      by_cases cv : G.variableB x.f1 = true
      · rw [if_pos cv] at hc; simpa using hc.symm
      · rw [if_neg cv] at hc; cases hc
    rw [e, eq]
    exact .inr ⟨rfl, _, rfl⟩
  rw [if_neg c2] at hc
  by_cases c3 : x.f0 = 3
  · rw [if_pos c3] at hc
    have hn := hk (by unfold G.namedB; rw [c3]; rfl)
    have e : namedP vs x.f0 x.f1 = truthP true := by unfold namedP; rw [if_neg (by omega), if_pos ⟨c3, hn.1⟩]
    have eq : q = G.tru := by
      by_cases cv : G.variableB x.f1 = true
      · rw [if_pos cv] at hc; simpa using hc.symm
      · rw [if_neg cv] at hc; cases hc
    rw [e, eq]
    exact .inl ⟨rfl, true, rfl⟩
  rw [if_neg c3] at hc
  by_cases c4 : x.f0 = 4 ∨ x.f0 = 5
  · rw [if_pos c4] at hc
    by_cases cb : x.f1.toList.isEmpty = true
    · rw [if_pos cb] at hc
      have eq : q = G.tru := by simpa using hc.symm
      have e : namedP vs x.f0 x.f1 = [⟨x.f0, x.f1⟩] := by unfold namedP; rw [if_neg (by omega), if_neg (by omega)]
      rw [e, eq, bt_nil (List.isEmpty_iff.1 cb)]
      rcases c4 with c | c
      · exact .inl ⟨rfl, true, by rw [c]; rfl⟩
      · exact .inl ⟨rfl, false, by rw [c]; rfl⟩
    · rw [if_neg cb] at hc; cases hc
  · rcases arity_cases x.f0 with ⟨_, a, b, c⟩ | ⟨a, _⟩ | ⟨a, _⟩
    · rw [if_neg c4, if_neg (by omega), if_neg (by omega), if_neg (by omega), if_neg (by omega), if_neg (by omega)] at hc
      cases hc
    · omega
    · omega
theorem Ks.step {vs : List S56} {x : S45} (hk : KnownS vs x) {C C' : List G.Prt} {P : List (List S45)} (h : Ks C P) (hc : G.stepC C x.f0 x.f1 = some C') : Ks C' (foldSp vs x P) := by
  rcases split_of hc with ⟨ar, q, rfl, hq⟩ | ⟨hx, C0, q, rfl⟩ | ⟨hx, C0, a, b, rfl⟩
  · have e := foldSp_on vs x P [] (by rw [ar]; rfl)
    rw [List.append_nil, foldXp_named vs x [] ar] at e
    rw [e]
    exact .snoc q _ h (Kn.named hk ar hq)
  · obtain ⟨P0, p, rfl, h0, hp⟩ := h.unsnoc
    obtain ⟨rfl, hq, _⟩ := G.inv1 hx hc
    have ar : arityB x.f0 = 1 := by rcases hx with c | c <;> rw [c] <;> rfl
    rw [foldSp_on vs x P0 [p] (by rw [ar]; rfl)]
    refine .snoc _ _ h0 (.inl ⟨rfl, ?_⟩)
    rcases hx with c | c
    · rcases hp with ⟨t, _⟩ | ⟨_, tx, rfl⟩
      · rw [t, c] at hq; cases hq
      · have e : foldXp vs x [[⟨1, tx⟩]] = textsP x.f0 x.f1 [⟨[⟨1, tx⟩]⟩] := by unfold foldXp; rw [if_neg (by omega), if_neg (by omega), if_pos (by omega)]; rfl
        rw [e]
        unfold textsP
        exact ⟨_, if_pos (show ([(⟨[⟨1, tx⟩]⟩ : S66)].all fun p => isP p.f0 1) = true from rfl)⟩
    · rcases hp with ⟨_, b, rfl⟩ | ⟨t, _⟩
      · have e : foldXp vs x [truthP b] = notP x.f0 x.f1 (truthP b) := by unfold foldXp; rw [if_pos c]
        rw [e]
        unfold notP
        rw [if_pos (by cases b <;> rfl)]
        exact ⟨_, rfl⟩
      · rw [t, c] at hq; cases hq
  · rw [show C0 ++ [a, b] = C0 ++ [a] ++ [b] by simp] at h
    obtain ⟨P1, p2, rfl, h1, hp2⟩ := h.unsnoc
    obtain ⟨P0, p1, rfl, h0, hp1⟩ := h1.unsnoc
    obtain ⟨rfl, hq, hr, _, _⟩ := G.inv2 hx hc
    have ar : arityB x.f0 = 2 := by rcases hx with c | c | c | c | c | c <;> rw [c] <;> rfl
    rw [List.append_assoc, foldSp_on vs x P0 ([p1] ++ [p2]) (by rw [ar]; rfl)]
    refine .snoc _ _ h0 (.inl ⟨rfl, ?_⟩)
    show ∃ b, foldXp vs x [p1, p2] = truthP b
    by_cases c12 : 12 ≤ x.f0
    · rw [decide_eq_true c12] at hq hr
      rcases hp1 with ⟨_, b1, rfl⟩ | ⟨t, _⟩
      · rcases hp2 with ⟨_, b2, rfl⟩ | ⟨t, _⟩
        · have e : foldXp vs x [truthP b1, truthP b2] = logicP x.f0 x.f1 (truthP b1) (truthP b2) := by unfold foldXp; rw [if_neg (by omega), if_pos (by omega)]
          rw [e]
          have c : x.f0 = 12 ∨ x.f0 = 13 := by omega
          unfold logicP
          dsimp only
          rw [isP_truth, isP_truth, isP_truth, isP_truth]
          rcases c with c | c <;> rw [c] <;> cases b1 <;> cases b2
          · exact ⟨false, rfl⟩
          · exact ⟨false, rfl⟩
          · exact ⟨false, rfl⟩
          · exact ⟨true, rfl⟩
          · exact ⟨false, rfl⟩
          · exact ⟨true, rfl⟩
          · exact ⟨true, rfl⟩
          · exact ⟨true, rfl⟩
        · rw [t] at hr; cases hr
      · rw [t] at hq; cases hq
    · rw [decide_eq_false c12] at hq hr
      rcases hp1 with ⟨t, _⟩ | ⟨_, t1, rfl⟩
      · rw [t] at hq; cases hq
      · rcases hp2 with ⟨t, _⟩ | ⟨_, t2, rfl⟩
        · rw [t] at hr; cases hr
        · have e : foldXp vs x [[⟨1, t1⟩], [⟨1, t2⟩]] = textsP x.f0 x.f1 [⟨[⟨1, t1⟩]⟩, ⟨[⟨1, t2⟩]⟩] := by unfold foldXp; rw [if_neg (by omega), if_neg (by omega), if_pos (by omega)]; rfl
          rw [e]
          unfold textsP
          exact ⟨_, if_pos (show ([(⟨[⟨1, t1⟩]⟩ : S66), ⟨[⟨1, t2⟩]⟩].all fun p => isP p.f0 1) = true from rfl)⟩
theorem Ks.run {vs : List S56} : ∀ (t : List S45) (C C' : List G.Prt) (P : List (List S45)), (∀ x ∈ t, KnownS vs x) → Ks C P → G.runC (expr_Check.prs t) C = some C' → Ks C' (foldRp vs t P) := by
  intro t
  induction t with
  | nil =>
    intro C C' P _ h hc
    have e : some C = some C' := hc
    injection e with e
    subst e
    exact h
  | cons x r ih =>
    intro C C' P hk h hc
    have hc' : (G.stepC C x.f0 x.f1).bind (G.runC (expr_Check.prs r)) = some C' := hc
    rw [Option.bind_eq_some_iff] at hc'
    obtain ⟨C1, h1, h2⟩ := hc'
    exact ih C1 C' (foldSp vs x P) (fun y hy => hk y (List.mem_cons_of_mem _ hy)) (h.step (hk x (List.mem_cons_self ..)) h1) h2
theorem known_fold {vs : List S56} {t : List S45} {k : Nat} (hv : VarsFit vs) (hk : vs.length + 30 < k) (ht : StepsFit t) (hc : okC t = true) (hn : ∀ x ∈ t, KnownS vs x) : rule_Fold.f k t vs = some (truthP (sayB t vs), 0) := by
  have hv' : VarsFit (vs ++ []) := by rw [List.append_nil]; exact hv
  obtain ⟨f1, ⟨q, v, hpt, hqt, hvo⟩, _, _⟩ := fold_eq [] hv hv' hk ht hc
  rw [List.append_nil] at hvo
  obtain ⟨q0, hq0, hq0t⟩ := G.checkB_run hc
  have hks := Ks.run t [] [q0] [] hn Ks.nil hq0
  obtain ⟨P0, p, eP, h0, hp⟩ := Ks.unsnoc (C := []) (q := q0) hks
  have hP0 : P0 = [] := by
    cases h0' : P0 with
    | nil => rfl
    | cons a b =>
      rw [h0'] at h0
      generalize hC : ([] : List G.Prt) = D at h0
      generalize hE : a :: b = E at h0
      cases h0 with
      | nil => cases hE
      | snoc _ _ _ _ => simp at hC
  have el : leftOf vs t = p := by unfold leftOf; rw [eP, hP0]; rfl
  rcases hp with ⟨_, b, rfl⟩ | ⟨h, _⟩
  · obtain ⟨v', r3, r4, _⟩ := hpt.val
    rw [el] at r3
    have e2 : v'.ok = b := by
      have : some [(⟨G.mt, b⟩ : G.Vl)] = some [v'] := by
        rw [← r3]
        cases b <;> rfl
      simp at this
      rw [← this]
    have e3 : b = sayB t vs := by rw [← e2, r4 hqt, hvo]
    rw [f1, el, e3]
  · rw [hq0t] at h; cases h
/-- The reference's Get. -/
theorem refIndex_loop (l : List S56) (nm : ByteArray) (hl : l.length < 4398046511104) : ∀ (d k i : Nat), l.length - i = d → i ≤ l.length → d < k →
    ∃ r, shuttleref10_Index.l0 k l nm i = some r ∧ ((r = -1 ∧ G.getV (rule_say.vrs (l.drop i)) nm = none) ∨ ∃ (j : Nat) (hj : j < l.length), r = (j : Int) ∧ G.getV (rule_say.vrs (l.drop i)) nm = some l[j].f1) := by
  intro d
  induction d with
  | zero =>
    intro k i hd hi hk
    obtain ⟨k, rfl⟩ : ∃ m, k = m + 1 := ⟨k - 1, by omega⟩
    obtain rfl : i = l.length := by omega
    refine ⟨-1, ?_, .inl ⟨rfl, by rw [List.drop_length]; rfl⟩⟩
    unfold shuttleref10_Index.l0
    rw [if_neg (by omega)]
  | succ d ih =>
    intro k i hd hi hk
    obtain ⟨k, rfl⟩ : ∃ m, k = m + 1 := ⟨k - 1, by omega⟩
    have hi' : i < l.length := by omega
    have er : rd_T56 l (i : Int) = l[i] := by unfold rd_T56; simp [hi']
    have eg : G.getV (rule_say.vrs (l[i] :: l.drop (i + 1))) nm = if l[i].f0.toList == nm.toList then some l[i].f1 else G.getV (rule_say.vrs (l.drop (i + 1))) nm := rfl
    rw [List.drop_eq_getElem_cons hi', eg]
    unfold shuttleref10_Index.l0
    rw [if_pos (by omega), if_pos (by omega), er]
    by_cases c : l[i].f0.toList = nm.toList
    · rw [if_pos c, if_pos (beq_iff_eq.2 c)]
      exact ⟨_, rfl, .inr ⟨i, hi', rfl, rfl⟩⟩
    · rw [if_neg c, if_neg (by simpa using c), wrap_up hi' (by omega)]
      exact ih k (i + 1) (by omega) (by omega) (by omega)
theorem refGet_eq {l : List S56} (nm : ByteArray) (hl : l.length < 4398046511104) {k : Nat} (hk : l.length < k) : shuttleref10_Get.f k l nm = some (G.getT (rule_say.vrs l) nm, G.getB (rule_say.vrs l) nm) := by
  obtain ⟨r, h1, h2⟩ := refIndex_loop l nm hl l.length k 0 (by omega) (by omega) hk
  rw [List.drop_zero] at h2
  have h1' : shuttleref10_Index.l0 k l nm 0 = some r := h1
  unfold shuttleref10_Get.f shuttleref10_Index.f G.getT G.getB
  rw [h1', Option.bind_some]
  rcases h2 with ⟨rfl, h2⟩ | ⟨j, hj, rfl, h2⟩
  · rw [h2, if_neg (by decide)]
    rfl
  · have er : rd_T56 l (j : Int) = l[j] := by unfold rd_T56; simp [hj]
    rw [h2, if_pos (by omega), if_pos (by omega), if_pos (by omega), er]
    rfl
theorem names_eq {l : List S45} (h : StepsFit l) : expr_Names.f l = some (G.namesB (expr_Names.prs l)) := by
  unfold expr_Names.f
  rw [if_pos]
  unfold expr_Names.fit
  rw [Bool.and_eq_true, decide_eq_true_eq, List.all_eq_true]
  exact ⟨by have := h.len; omega, fun x hx => decide_eq_true (by have := h.each x hx; omega)⟩
theorem mem_names {l : List S45} (hc : okC l = true) {n : ByteArray} : n ∈ G.namesB (expr_Names.prs l) ↔ ∃ x ∈ l, G.namedB x.f0 = true ∧ x.f1 = n := by
  unfold G.namesB
  rw [if_pos (show G.checkB (expr_Names.prs l) = true from hc), G.mem_sortB]
  unfold G.namesOf expr_Names.prs
  simp only [List.mem_map, List.mem_filter]
  constructor
  · rintro ⟨a, ⟨⟨x, hx, rfl⟩, ha⟩, rfl⟩
    exact ⟨x, hx, ha, rfl⟩
  · rintro ⟨x, hx, ha, rfl⟩
    exact ⟨_, ⟨⟨x, hx, rfl⟩, ha⟩, rfl⟩
theorem names_len (l : List S45) : (G.namesB (expr_Names.prs l)).length ≤ l.length := by
  unfold G.namesB
  split
  · refine Nat.le_trans (G.sortB_length _) (Nat.le_trans (G.namesOf_len _) ?_)
    unfold expr_Names.prs
    rw [List.length_map]
    exact Nat.le_refl _
  · exact Nat.zero_le _
end Go.Proofs.Ytinhlaiogkmkfaa.PA
end
