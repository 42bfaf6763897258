/- The plain law of patterns: what steps match, step by step; how a pattern's bytes are read. -/
import Derived.Test.YtofgjlfgpnmmdaaGp
import Derived.Test.YtofgjlfgpnmmdaaGg
namespace Go.Proofs.Ytofgjlfgpnmmdaa.G
open Go.RowKit
set_option linter.unusedVariables false
set_option linter.unusedSimpArgs false
/-! ### what steps match -/
theorem Pm_append (L M : List Stp) : ∀ j, j ≤ L.length → ∀ u, Pm (L ++ M) j u ↔ Pm L j u := by
  intro j
  induction j with
  | zero => intro _ u; exact Iff.rfl
  | succ j ih =>
    intro hj u
    have e : (L ++ M)[j]? = L[j]? := List.getElem?_append_left (by omega)
    have ih' := ih (by omega)
    simp only [Pm, e]
    cases L[j]? with
    | none => exact Iff.rfl
    | some q =>
      simp only
      split
      · constructor
        · rintro ⟨u1, u2, h1, h2, h3⟩; exact ⟨u1, u2, h1, (ih' u1).1 h2, h3⟩
        · rintro ⟨u1, u2, h1, h2, h3⟩; exact ⟨u1, u2, h1, (ih' u1).2 h2, h3⟩
      · constructor
        · rintro ⟨u1, c, h1, h2, h3⟩; exact ⟨u1, c, h1, (ih' u1).1 h2, h3⟩
        · rintro ⟨u1, c, h1, h2, h3⟩; exact ⟨u1, c, h1, (ih' u1).2 h2, h3⟩
theorem Pm_join (L M : List Stp) : ∀ j, ∀ u, Pm (L ++ M) (L.length + j) u ↔ ∃ u1 u2, u = u1 ++ u2 ∧ Mat L u1 ∧ Pm M j u2 := by
  intro j
  induction j with
  | zero =>
    intro u
    rw [Nat.add_zero, Pm_append L M _ (Nat.le_refl _)]
    constructor
    · intro h; exact ⟨u, [], by simp, h, rfl⟩
    · rintro ⟨u1, u2, rfl, h, h2⟩
      have : u2 = [] := h2
      subst this
      rw [List.append_nil]
      exact h
  | succ j ih =>
    intro u
    have e : (L ++ M)[L.length + j]? = M[j]? := by rw [List.getElem?_append_right (by omega)]; congr 1; omega
    rw [show L.length + (j + 1) = (L.length + j) + 1 from by omega]
    simp only [Pm, e]
    cases M[j]? with
    | none =>
      constructor
      · intro h; exact h.elim
      · rintro ⟨_, _, _, _, h⟩; exact h
    | some q =>
      simp only
      split
      · constructor
        · rintro ⟨u1, u2, rfl, h2, h3⟩
          obtain ⟨v1, v2, rfl, h4, h5⟩ := (ih u1).1 h2
          exact ⟨v1, v2 ++ u2, by simp, h4, v2, u2, rfl, h5, h3⟩
        · rintro ⟨v1, v2, rfl, h4, w1, w2, rfl, h5, h3⟩
          exact ⟨v1 ++ w1, w2, by simp, (ih _).2 ⟨v1, w1, rfl, h4, h5⟩, h3⟩
      · constructor
        · rintro ⟨u1, c, rfl, h2, h3⟩
          obtain ⟨v1, v2, rfl, h4, h5⟩ := (ih u1).1 h2
          exact ⟨v1, v2 ++ [c], by simp, h4, v2, c, rfl, h5, h3⟩
        · rintro ⟨v1, v2, rfl, h4, w1, c, rfl, h5, h3⟩
          exact ⟨v1 ++ w1, c, by simp, (ih _).2 ⟨v1, w1, rfl, h4, h5⟩, h3⟩
theorem Mat_append (L M : List Stp) (u : List Int) : Mat (L ++ M) u ↔ ∃ u1 u2, u = u1 ++ u2 ∧ Mat L u1 ∧ Mat M u2 := by
  unfold Mat
  rw [List.length_append]
  exact Pm_join L M M.length u
theorem Mat_nil (u : List Int) : Mat [] u ↔ u = [] := Iff.rfl
theorem Mat_single_many (f : Int → Bool) (u : List Int) : Mat [⟨true, f⟩] u ↔ ∀ c ∈ u, f c = true := by
  unfold Mat
  show Pm _ 1 u ↔ _
  simp only [Pm, List.getElem?_cons_zero, if_true]
  constructor
  · rintro ⟨u1, u2, rfl, h1, h2⟩
    subst h1
    exact h2
  · intro h
    exact ⟨[], u, rfl, rfl, h⟩
theorem Mat_single_one (f : Int → Bool) (u : List Int) : Mat [⟨false, f⟩] u ↔ ∃ c, u = [c] ∧ f c = true := by
  unfold Mat
  show Pm _ 1 u ↔ _
  simp only [Pm, List.getElem?_cons_zero]
  constructor
  · rintro ⟨u1, c, rfl, h1, h2⟩
    subst h1
    exact ⟨c, rfl, h2⟩
  · rintro ⟨c, rfl, h⟩
    exact ⟨[], c, rfl, rfl, h⟩
theorem Mat_cons_many (f : Int → Bool) (L : List Stp) (u : List Int) : Mat (⟨true, f⟩ :: L) u ↔ ∃ u1 u2, u = u1 ++ u2 ∧ (∀ c ∈ u1, f c = true) ∧ Mat L u2 := by
  rw [show (⟨true, f⟩ :: L : List Stp) = [⟨true, f⟩] ++ L from rfl, Mat_append]
  constructor
  · rintro ⟨u1, u2, h1, h2, h3⟩; exact ⟨u1, u2, h1, (Mat_single_many f u1).1 h2, h3⟩
  · rintro ⟨u1, u2, h1, h2, h3⟩; exact ⟨u1, u2, h1, (Mat_single_many f u1).2 h2, h3⟩
theorem Mat_cons_one (f : Int → Bool) (L : List Stp) (u : List Int) : Mat (⟨false, f⟩ :: L) u ↔ ∃ c r, u = c :: r ∧ f c = true ∧ Mat L r := by
  rw [show (⟨false, f⟩ :: L : List Stp) = [⟨false, f⟩] ++ L from rfl, Mat_append]
  constructor
  · rintro ⟨u1, u2, rfl, h2, h3⟩
    obtain ⟨c, rfl, h⟩ := (Mat_single_one f u1).1 h2
    exact ⟨c, u2, rfl, h, h3⟩
  · rintro ⟨c, r, rfl, h2, h3⟩
    exact ⟨[c], r, rfl, (Mat_single_one f _).2 ⟨c, rfl, h2⟩, h3⟩
/-- Steps that are bytes match just these. -/
theorem Mat_bytes : ∀ (s u : List Int), Mat (s.map fun b => ⟨false, fun c => c == b⟩) u ↔ u = s := by
  intro s
  induction s with
  | nil => intro u; exact Mat_nil u
  | cons b s ih =>
    intro u
    rw [List.map_cons, Mat_cons_one]
    constructor
    · rintro ⟨c, r, rfl, h1, h2⟩
      rw [(ih r).1 h2, (beq_iff_eq.1 h1 : c = b)]
    · rintro rfl
      exact ⟨b, s, rfl, by simp, (ih s).2 rfl⟩
/-! ### how a pattern is read, list by list -/
/-- A byte that is meant, and what is behind it. -/
def byteL : List Int → Option (Int × List Int)
  | [] => none
  | c :: r => if c = 92 then (match r with
    | [] => none
    | d :: r' => some (d, r')) else some (c, r)
theorem byteL_len {l : List Int} {c : Int} {r : List Int} (h : byteL l = some (c, r)) : r.length < l.length := by
  cases l with
  | nil => cases h
  | cons x l =>
    simp only [byteL] at h
    split at h
    · cases l with
      | nil => cases h
      | cons d l => simp only [Option.some.injEq, Prod.mk.injEq] at h; rw [← h.2]; simp; omega
    · simp only [Option.some.injEq, Prod.mk.injEq] at h; rw [← h.2]; simp
/-- The ranges of brackets, up to the bracket that shuts them; what is behind it. -/
def rangesL (l : List Int) (acc : List (Int × Int)) : Option (List (Int × Int) × List Int) :=
  match l with
  | [] => none
  | c :: r => if c = 93 then (if acc = [] then none else some (acc, r)) else
    match h : byteL (c :: r) with
    | none => none
    | some (lo, r1) => match r1 with
      | 45 :: d :: r2 => if d = 93 then rangesL (45 :: d :: r2) (acc ++ [(lo, lo)]) else
        match h2 : byteL (d :: r2) with
        | none => none
        | some (hi, r3) => if hi < lo then none else rangesL r3 (acc ++ [(lo, hi)])
      | r1 => rangesL r1 (acc ++ [(lo, lo)])
termination_by l.length
decreasing_by
  · have := byteL_len h; simpa using this
  · have := byteL_len h; have := byteL_len h2; simp at *; omega
  · have := byteL_len h; simpa using this
theorem rangesL_len : ∀ n (l : List Int) acc R r, l.length ≤ n → rangesL l acc = some (R, r) → r.length < l.length := by
  intro n
  induction n with
  | zero =>
    intro l acc R r h
    have : l = [] := List.eq_nil_of_length_eq_zero (by omega)
    subst this
    rw [rangesL]
    intro h
    cases h
  | succ n ih =>
    intro l acc R r h
    cases l with
    | nil => rw [rangesL]; intro h; cases h
    | cons c l =>
      rw [rangesL]
      split
      · split
        · intro h; cases h
        · intro h
          simp only [Option.some.injEq, Prod.mk.injEq] at h
          rw [← h.2]
          simp
      · split
        · intro h; cases h
        · rename_i lo r1 hb
          have hl := byteL_len hb
          simp only [List.length_cons] at h hl
          split
          · rename_i d r2
            simp only [List.length_cons] at hl
            split
            · intro h'
              have := ih _ _ _ _ (by simp; omega) h'
              simp at this ⊢
              omega
            · split
              · intro h; cases h
              · rename_i hi r3 hb2
                have hl2 := byteL_len hb2
                simp only [List.length_cons] at hl2
                split
                · intro h; cases h
                · intro h'
                  have := ih _ _ _ _ (by omega) h'
                  simp at this ⊢
                  omega
          · intro h'
            have := ih _ _ _ _ (by omega) h'
            simp at this ⊢
            omega
theorem ranges_stop (c : Int) (r : List Int) (acc : List (Int × Int)) (hc : c = 93) : rangesL (c :: r) acc = if acc = [] then none else some (acc, r) := by
  rw [rangesL, if_pos hc]
theorem ranges_none (c : Int) (r : List Int) (acc : List (Int × Int)) (hc : c ≠ 93) (hb : byteL (c :: r) = none) : rangesL (c :: r) acc = none := by
  rw [rangesL, if_neg hc]
  split
  · rfl
  · rename_i lo r1 h
    rw [hb] at h
    cases h
theorem ranges_two (c : Int) (r : List Int) (acc : List (Int × Int)) (hc : c ≠ 93) (lo d : Int) (r2 : List Int) (hb : byteL (c :: r) = some (lo, 45 :: d :: r2)) (hd : d ≠ 93) :
    rangesL (c :: r) acc = match byteL (d :: r2) with
      | none => none
      | some (hi, r3) => if hi < lo then none else rangesL r3 (acc ++ [(lo, hi)]) := by
  rw [rangesL, if_neg hc]
  split
  · rename_i h
    rw [hb] at h
    cases h
  · rename_i lo' r1 h
    rw [hb] at h
    simp only [Option.some.injEq, Prod.mk.injEq] at h
    obtain ⟨rfl, rfl⟩ := h
    simp only [if_neg hd]
    split <;> rename_i h2 <;> simp only [h2]
theorem ranges_one (c : Int) (r : List Int) (acc : List (Int × Int)) (hc : c ≠ 93) (lo : Int) (r1 : List Int) (hb : byteL (c :: r) = some (lo, r1)) (hr : ∀ d r2, r1 = 45 :: d :: r2 → d = 93) :
    rangesL (c :: r) acc = rangesL r1 (acc ++ [(lo, lo)]) := by
  rw [rangesL, if_neg hc]
  split
  · rename_i h
    rw [hb] at h
    cases h
  · rename_i lo' r1' h
    rw [hb] at h
    simp only [Option.some.injEq, Prod.mk.injEq] at h
    obtain ⟨rfl, rfl⟩ := h
    split
    · rename_i d r2 _
      rw [if_pos (hr d r2 rfl)]
    · rfl
/-- A pattern's steps. -/
def parseL (l : List Int) : Option (List Stp) :=
  match l with
  | [] => some []
  | c :: r =>
    if c = 42 then (if r.head? = some 42 then (parseL r.tail).map (⟨true, fun _ => true⟩ :: ·) else (parseL r).map (⟨true, fun c => c != 47⟩ :: ·))
    else if c = 63 then (parseL r).map (⟨false, fun c => c != 47⟩ :: ·)
    else if c = 91 then
      match h : rangesL (if r.head? = some 33 then r.tail else r) [] with
      | none => none
      | some (R, rest) => (parseL rest).map (⟨false, classL R (decide (r.head? = some 33))⟩ :: ·)
    else match h : byteL (c :: r) with
      | none => none
      | some (v, rest) => (parseL rest).map (⟨false, fun c => c == v⟩ :: ·)
termination_by l.length
decreasing_by
  · simp; omega
  · simp
  · simp
  · have := rangesL_len _ _ _ _ _ (Nat.le_refl _) h
    split at this
    · have h2 : r.tail.length ≤ r.length := by simp
      simp; omega
    · simp; omega
  · have := byteL_len h; simpa using this
end Go.Proofs.Ytofgjlfgpnmmdaa.G
