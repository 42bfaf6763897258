/- The plain law of patterns: what the marks say. No program here but for the words of the texts it imports. -/
import Derived.Test.YtofgjlfgpnmmdaaGi
namespace Go.Proofs.Ytofgjlfgpnmmdaa.G
open Go.RowKit
set_option linter.unusedVariables false
set_option linter.unusedSimpArgs false
/-- The first j steps of L match just u. -/
def Pm (L : List Stp) : Nat → List Int → Prop
  | 0, u => u = []
  | j + 1, u => match L[j]? with
    | none => False
    | some q => if q.many = true then ∃ u1 u2, u = u1 ++ u2 ∧ Pm L j u1 ∧ ∀ c ∈ u2, q.fits c = true else ∃ u1 c, u = u1 ++ [c] ∧ Pm L j u1 ∧ q.fits c = true
/-- .. and step j, if it may match many bytes, the rest. -/
def Qm (L : List Stp) (j : Nat) (u : List Int) : Prop :=
  Pm L j u ∨ ∃ q, L[j]? = some q ∧ q.many = true ∧ ∃ u1 u2, u = u1 ++ u2 ∧ Pm L j u1 ∧ ∀ c ∈ u2, q.fits c = true
theorem thru_zero (many : Nat → Bool) (at_ : Nat → Bool) : ∀ n, thruTo many n at_ 0 = at_ 0 := by
  intro n
  induction n with
  | zero => rfl
  | succ n ih => simp [thruTo, ih]
theorem thru_high (many : Nat → Bool) (at_ : Nat → Bool) : ∀ n j, n < j → thruTo many n at_ j = at_ j := by
  intro n
  induction n with
  | zero => intro j _; rfl
  | succ n ih =>
    intro j hj
    simp only [thruTo]
    rw [if_neg (by omega), ih j (by omega)]
theorem thru_stable (many : Nat → Bool) (at_ : Nat → Bool) : ∀ n j, j ≤ n → thruTo many (n + 1) at_ j = thruTo many n at_ j := by
  intro n j hj
  simp only [thruTo]
  rw [if_neg (by omega)]
theorem thru_le (many : Nat → Bool) (at_ : Nat → Bool) : ∀ d j, thruTo many (j + d) at_ j = thruTo many j at_ j := by
  intro d j
  induction d with
  | zero => rfl
  | succ d ih => rw [show j + (d + 1) = (j + d) + 1 from by omega, thru_stable many at_ (j + d) j (by omega), ih]
theorem thru_succ (many : Nat → Bool) (at_ : Nat → Bool) (n j : Nat) (h : j + 1 ≤ n) : thruTo many n at_ (j + 1) = (at_ (j + 1) || (many j && thruTo many n at_ j)) := by
  have e1 := thru_le many at_ (n - (j + 1)) (j + 1)
  have e2 := thru_le many at_ (n - j) j
  rw [show j + 1 + (n - (j + 1)) = n from by omega] at e1
  rw [show j + (n - j) = n from by omega] at e2
  rw [e1, e2]
  simp only [thruTo]
  rw [thru_high many at_ j (j + 1) (by omega)]
  cases many j <;> cases thruTo many j at_ j <;> simp
theorem next_at (L : List Stp) (S : Nat → Bool) (c : Int) : ∀ n j, nextTo L S c n j = true ↔
    ∃ k q, k < n ∧ L[k]? = some q ∧ S k = true ∧ q.fits c = true ∧ j = (if q.many = true then k else k + 1) := by
  intro n
  induction n with
  | zero => intro j; simp [nextTo, none_]
  | succ n ih =>
    intro j
    simp only [nextTo]
    cases hq : L[n]? with
    | none =>
      simp only
      rw [ih j]
      constructor
      · rintro ⟨k, q, h1, h2⟩
        exact ⟨k, q, by omega, h2⟩
      · rintro ⟨k, q, h1, h2, h3⟩
        rcases Nat.lt_or_ge k n with h | h
        · exact ⟨k, q, h, h2, h3⟩
        · have : k = n := by omega
          subst this
          rw [hq] at h2
          cases h2
    | some q0 =>
      simp only
      by_cases hc : S n = true ∧ q0.fits c = true ∧ j = (if q0.many = true then n else n + 1)
      · rw [if_pos hc]
        exact ⟨fun _ => ⟨n, q0, by omega, hq, hc⟩, fun _ => rfl⟩
      · rw [if_neg hc, ih j]
        constructor
        · rintro ⟨k, q, h1, h2⟩
          exact ⟨k, q, by omega, h2⟩
        · rintro ⟨k, q, h1, h2, h3⟩
          rcases Nat.lt_or_ge k n with h | h
          · exact ⟨k, q, h, h2, h3⟩
          · have : k = n := by omega
            subst this
            rw [hq] at h2
            cases h2
            exact absurd h3 hc
theorem snoc_inj {α : Type} {u v : List α} {c d : α} (h : u ++ [c] = v ++ [d]) : u = v ∧ c = d := by
  have := List.append_inj' h rfl
  exact ⟨this.1, by simpa using this.2⟩
theorem snoc_cases {α : Type} (u2 : List α) : u2 = [] ∨ ∃ v d, u2 = v ++ [d] := by
  rcases List.eq_nil_or_concat u2 with h | ⟨v, d, h⟩
  · exact .inl h
  · exact .inr ⟨v, d, by simpa using h⟩
theorem Pm_many {L : List Stp} {j : Nat} {q : Stp} (hq : L[j]? = some q) (hm : q.many = true) (u : List Int) : Pm L (j + 1) u ↔ ∃ u1 u2, u = u1 ++ u2 ∧ Pm L j u1 ∧ ∀ c ∈ u2, q.fits c = true := by
  simp only [Pm, hq, hm, if_true]
theorem Pm_one {L : List Stp} {j : Nat} {q : Stp} (hq : L[j]? = some q) (hm : q.many = false) (u : List Int) : Pm L (j + 1) u ↔ ∃ u1 c, u = u1 ++ [c] ∧ Pm L j u1 ∧ q.fits c = true := by
  simp [Pm, hq, hm]
theorem Qm_snoc0 (L : List Stp) (u : List Int) (c : Int) : Qm L 0 (u ++ [c]) ↔ ∃ q, L[0]? = some q ∧ q.many = true ∧ q.fits c = true ∧ Qm L 0 u := by
  constructor
  · rintro (h | ⟨q, hq, hm, u1, u2, he, h1, h2⟩)
    · simp [Pm] at h
    · have h1' : u1 = [] := h1
      subst h1'
      rw [List.nil_append] at he
      subst he
      exact ⟨q, hq, hm, h2 c (by simp), .inr ⟨q, hq, hm, [], u, rfl, rfl, fun d hd => h2 d (by simp [hd])⟩⟩
  · rintro ⟨q, hq, hm, hc, h | ⟨q', hq', _, u1, u2, he, h1, h2⟩⟩
    · have h' : u = [] := h
      subst h'
      exact .inr ⟨q, hq, hm, [], [c], rfl, rfl, fun d hd => by rw [List.mem_singleton.1 hd]; exact hc⟩
    · rw [hq] at hq'
      cases hq'
      exact .inr ⟨q, hq, hm, u1, u2 ++ [c], by rw [he, List.append_assoc], h1, fun d hd => by
        rcases List.mem_append.1 hd with hd | hd
        · exact h2 d hd
        · rw [List.mem_singleton.1 hd]; exact hc⟩
theorem Qm_snoc (L : List Stp) (j : Nat) (u : List Int) (c : Int) (p : Stp) (hp : L[j]? = some p) : Qm L (j + 1) (u ++ [c]) ↔
    (∃ q, L[j + 1]? = some q ∧ q.many = true ∧ q.fits c = true ∧ Qm L (j + 1) u) ∨ (p.many = true ∧ Qm L j (u ++ [c])) ∨ (p.many = false ∧ p.fits c = true ∧ Qm L j u) := by
  have hP : Pm L (j + 1) (u ++ [c]) ↔ (p.many = true ∧ Qm L j (u ++ [c])) ∨ (p.many = false ∧ p.fits c = true ∧ Qm L j u) := by
    cases hm : p.many with
    | true =>
      rw [Pm_many hp hm]
      constructor
      · intro h
        exact .inl ⟨rfl, .inr ⟨p, hp, hm, h⟩⟩
      · rintro (⟨_, h | ⟨q, hq, _, h⟩⟩ | ⟨h, _⟩)
        · exact ⟨_, [], (List.append_nil _).symm, h, fun d hd => by cases hd⟩
        · rw [hp] at hq
          cases hq
          exact h
        · cases h
    | false =>
      rw [Pm_one hp hm]
      constructor
      · rintro ⟨u1, d, he, h1, h2⟩
        obtain ⟨rfl, rfl⟩ := snoc_inj he
        exact .inr ⟨rfl, h2, .inl h1⟩
      · rintro (⟨h, _⟩ | ⟨_, h2, h | ⟨q, hq, hm', _⟩⟩)
        · cases h
        · exact ⟨u, c, rfl, h, h2⟩
        · rw [hp] at hq
          cases hq
          rw [hm] at hm'
          cases hm'
  constructor
  · rintro (h | ⟨q, hq, hm, u1, u2, he, h1, h2⟩)
    · exact .inr (hP.1 h)
    · rcases snoc_cases u2 with rfl | ⟨v, d, rfl⟩
      · rw [List.append_nil] at he
        subst he
        exact .inr (hP.1 h1)
      · rw [← List.append_assoc] at he
        obtain ⟨rfl, rfl⟩ := snoc_inj he
        exact .inl ⟨q, hq, hm, h2 c (by simp), .inr ⟨q, hq, hm, u1, v, rfl, h1, fun d hd => h2 d (by simp [hd])⟩⟩
  · rintro (⟨q, hq, hm, hc, h | ⟨q', hq', _, u1, u2, he, h1, h2⟩⟩ | h)
    · exact .inr ⟨q, hq, hm, u, [c], rfl, h, fun d hd => by rw [List.mem_singleton.1 hd]; exact hc⟩
    · rw [hq] at hq'
      cases hq'
      exact .inr ⟨q, hq, hm, u1, u2 ++ [c], by rw [he, List.append_assoc], h1, fun d hd => by
        rcases List.mem_append.1 hd with hd | hd
        · exact h2 d hd
        · rw [List.mem_singleton.1 hd]; exact hc⟩
    · exact .inl (hP.2 h)
theorem many_at {L : List Stp} {i : Nat} {q : Stp} (h : L[i]? = some q) : manyOf L i = q.many := by simp only [manyOf, h]
theorem start_at (L : List Stp) : ∀ j, j ≤ L.length → (start L j = true ↔ Qm L j []) := by
  intro j
  induction j with
  | zero =>
    intro _
    unfold start
    rw [thru_zero]
    exact ⟨fun _ => .inl rfl, fun _ => rfl⟩
  | succ j ih =>
    intro hj
    have hq : L[j]? = some L[j] := List.getElem?_eq_getElem (by omega)
    unfold start at ih ⊢
    rw [thru_succ _ _ _ _ hj, many_at hq]
    have h0 : ((j + 1 == 0) : Bool) = false := rfl
    simp only [h0, Bool.false_or, Bool.and_eq_true, ih (by omega)]
    have key : Pm L (j + 1) [] ↔ L[j].many = true ∧ Qm L j [] := by
      cases hm : L[j].many with
      | true =>
        rw [Pm_many hq hm]
        constructor
        · intro h
          exact ⟨rfl, .inr ⟨_, hq, hm, h⟩⟩
        · rintro ⟨_, h | ⟨q, hq', _, h⟩⟩
          · exact ⟨[], [], rfl, h, fun d hd => by cases hd⟩
          · rw [hq] at hq'
            cases hq'
            exact h
      | false =>
        rw [Pm_one hq hm]
        constructor
        · rintro ⟨u1, c, he, _⟩
          simp at he
        · rintro ⟨h, _⟩
          cases h
    rw [← key]
    constructor
    · exact .inl
    · rintro (h | ⟨q, _, _, u1, u2, he, h1, _⟩)
      · exact h
      · obtain ⟨rfl, rfl⟩ := List.append_eq_nil_iff.1 he.symm
        exact h1
theorem step_at (L : List Stp) (S : Nat → Bool) (u : List Int) (c : Int) (hS : ∀ j, j ≤ L.length → (S j = true ↔ Qm L j u)) : ∀ j, j ≤ L.length → (stepOn L S c j = true ↔ Qm L j (u ++ [c])) := by
  intro j
  induction j with
  | zero =>
    intro hj
    unfold stepOn
    rw [thru_zero, next_at, Qm_snoc0]
    constructor
    · rintro ⟨k, q, hk, hq, h1, h2, h3⟩
      cases hm : q.many with
      | false => rw [hm] at h3; simp at h3
      | true =>
        rw [hm] at h3
        simp only [if_true] at h3
        subst h3
        exact ⟨q, hq, hm, h2, (hS 0 (by omega)).1 h1⟩
    · rintro ⟨q, hq, hm, h2, h1⟩
      have hlt : 0 < L.length := by
        rcases Nat.eq_zero_or_pos L.length with h | h
        · rw [List.eq_nil_of_length_eq_zero h] at hq; simp at hq
        · exact h
      exact ⟨0, q, hlt, hq, (hS 0 (by omega)).2 h1, h2, by simp [hm]⟩
  | succ j ih =>
    intro hj
    have hp : L[j]? = some L[j] := List.getElem?_eq_getElem (by omega)
    have ih' := ih (by omega)
    unfold stepOn at ih' ⊢
    rw [thru_succ _ _ _ _ hj, many_at hp, Bool.or_eq_true, Bool.and_eq_true, ih', next_at, Qm_snoc L j u c L[j] hp]
    constructor
    · rintro (⟨k, q, hk, hq, h1, h2, h3⟩ | h)
      · cases hm : q.many with
        | true =>
          rw [hm] at h3
          simp only [if_true] at h3
          subst h3
          exact .inl ⟨q, hq, hm, h2, (hS _ hj).1 h1⟩
        | false =>
          rw [hm] at h3
          have : k = j := by simp at h3; omega
          subst this
          rw [hp] at hq
          cases hq
          exact .inr (.inr ⟨hm, h2, (hS _ (by omega)).1 h1⟩)
      · exact .inr (.inl h)
    · rintro (⟨q, hq, hm, h2, h1⟩ | h | ⟨hm, h2, h1⟩)
      · have hlt : j + 1 < L.length := (List.getElem?_eq_some_iff.1 hq).1
        exact .inl ⟨j + 1, q, hlt, hq, (hS _ hj).2 h1, h2, by simp [hm]⟩
      · exact .inr h
      · exact .inl ⟨j, L[j], by omega, hp, (hS _ (by omega)).2 h1, h2, by simp [hm]⟩
/-- A text's bytes. -/
def bl (s : ByteArray) : List Int := s.data.toList.map fun b => (b.toNat : Int)
theorem bl_length (s : ByteArray) : (bl s).length = s.size := by simp [bl]
theorem bl_at (s : ByteArray) (k : Nat) (h : k < s.size) : (bl s)[k]? = some (bt s k) := by
  have h' : k < s.data.toList.length := by simpa using h
  simp only [bl, List.getElem?_map, List.getElem?_eq_getElem h', Option.map_some, bt, dif_pos h]
  rfl
theorem bl_take (s : ByteArray) (k : Nat) (h : k < s.size) : (bl s).take (k + 1) = (bl s).take k ++ [bt s k] := by
  have h' : k < (bl s).length := by rw [bl_length]; exact h
  rw [List.take_succ_eq_append_getElem h']
  have := bl_at s k h
  rw [List.getElem?_eq_getElem h'] at this
  rw [Option.some.inj this]
theorem marks_at (L : List Stp) (s : ByteArray) : ∀ k, k ≤ s.size → ∀ j, j ≤ L.length → (marks L s k j = true ↔ Qm L j ((bl s).take k)) := by
  intro k
  induction k with
  | zero => intro _ j hj; rw [List.take_zero]; exact start_at L j hj
  | succ k ih =>
    intro hk j hj
    rw [bl_take s k (by omega)]
    exact step_at L (marks L s k) _ _ (ih (by omega)) j hj
/-- L matches just u. -/
def Mat (L : List Stp) (u : List Int) : Prop := Pm L L.length u
theorem marks_end (L : List Stp) (s : ByteArray) : marks L s s.size L.length = true ↔ Mat L (bl s) := by
  rw [marks_at L s s.size (Nat.le_refl _) L.length (Nat.le_refl _), List.take_of_length_le (by rw [bl_length]; exact Nat.le_refl _)]
  constructor
  · rintro (h | ⟨q, hq, _⟩)
    · exact h
    · rw [List.getElem?_eq_none (Nat.le_refl _)] at hq
      cases hq
  · exact .inl
end Go.Proofs.Ytofgjlfgpnmmdaa.G
