/- How a pattern is read: the program's reader by places and the reader of lists agree. -/
import Derived.Test.YtofgjlfgpnmmdaaGq
import Derived.Test.YtofgjlfgpnmmdaaGh
namespace Go.Proofs.Ytofgjlfgpnmmdaa.G
open Go.RowKit
set_option linter.unusedVariables false
set_option linter.unusedSimpArgs false
/-- What is left of a pattern from place x on. -/
def at_ (p : ByteArray) (x : Nat) : List Int := (bl p).drop x
theorem at_cons (p : ByteArray) (x : Nat) (h : x < p.size) : at_ p x = bt p x :: at_ p (x + 1) := by
  have h' : x < (bl p).length := by rw [bl_length]; exact h
  unfold at_
  rw [List.drop_eq_getElem_cons h']
  have := bl_at p x h
  rw [List.getElem?_eq_getElem h'] at this
  rw [Option.some.inj this]
theorem at_nil (p : ByteArray) (x : Nat) (h : p.size ≤ x) : at_ p x = [] := by
  unfold at_
  rw [List.drop_eq_nil_iff, bl_length]
  exact h
theorem wrongAt_nonneg {y a : Int} (ha : 0 ≤ a) : 0 ≤ wrongAt y a := by
  unfold wrongAt
  split
  · exact ha
  · split <;> omega
theorem byteB_mono (p : ByteArray) (x : Nat) (y : Int) (h : 0 ≤ y) : 0 ≤ byteB p x y := by
  unfold byteB
  split
  · split
    · exact wrongAt_nonneg (by omega)
    · exact h
  · exact h
theorem byteL_at (p : ByteArray) (x : Nat) (h : x < p.size) :
    (byteL (at_ p x) = some (byteV p x, at_ p (byteA p x)) ∧ ∀ y, byteB p x y = y) ∨ (byteL (at_ p x) = none ∧ ∀ y, 0 ≤ byteB p x y) := by
  rw [at_cons p x h]
  simp only [byteL]
  unfold byteV byteA byteB
  by_cases h1 : bt p x = 92
  · rw [if_pos h1]
    by_cases h2 : p.size ≤ x + 1
    · rw [at_nil p (x + 1) h2]
      right
      refine ⟨rfl, fun y => ?_⟩
      rw [if_pos h1, if_pos h2]
      exact wrongAt_nonneg (by omega)
    · rw [at_cons p (x + 1) (by omega)]
      left
      refine ⟨?_, fun y => ?_⟩
      · rw [if_pos h1, if_pos h1, if_neg h2, if_neg h2]
      · rw [if_pos h1, if_neg h2]
  · rw [if_neg h1]
    left
    refine ⟨?_, fun y => ?_⟩
    · rw [if_neg h1, if_neg h1]
    · rw [if_neg h1]
theorem classGo_mono (p : ByteArray) (fr : Nat) : ∀ n (x : Nat) (y : Int) acc, p.size - x ≤ n → 0 ≤ y → 0 ≤ (classGo p fr x y acc).2.1 := by
  intro n
  induction n with
  | zero => intro x y acc h hy; rw [classGo, dif_neg (by omega)]; exact hy
  | succ n ih =>
    intro x y acc h hy
    rw [classGo]
    have h1 := byteA_lt p x
    have h2 := byteA_lt p (byteA p x + 1)
    split
    · split
      · refine ih _ _ _ (by omega) ?_
        split
        · exact wrongAt_nonneg (by omega)
        · exact byteB_mono _ _ _ (byteB_mono _ _ _ hy)
      · exact ih _ _ _ (by omega) (byteB_mono _ _ _ hy)
    · exact hy
/-- What is read off the brackets, both ways. -/
def ClassSays (p : ByteArray) (fr : Nat) (y : Int) (F : Nat × Int × List (Int × Int)) : Option (List (Int × Int) × List Int) → Prop
  | some (R, rest) => F.2.2 = R ∧ F.2.1 = y ∧ F.1 < p.size ∧ rest = at_ p (F.1 + 1) ∧ R ≠ []
  | none => 0 ≤ F.2.1 ∨ p.size ≤ F.1 ∨ F.2.2 = []
theorem class_says_bad {p : ByteArray} {fr : Nat} {y : Int} {F : Nat × Int × List (Int × Int)} {o : Option (List (Int × Int) × List Int)} (h : 0 ≤ F.2.1) (ho : o = none) : ClassSays p fr y F o := by
  subst ho
  exact .inl h
theorem classGo_says (p : ByteArray) (fr : Nat) : ∀ n (x : Nat) (y : Int) acc, p.size - x ≤ n → x ≤ p.size → ClassSays p fr y (classGo p fr x y acc) (rangesL (at_ p x) acc) := by
  intro n
  induction n with
  | zero =>
    intro x y acc h hx
    rw [classGo, dif_neg (by omega), at_nil p x (by omega), rangesL]
    exact .inr (.inl (by simp only; omega))
  | succ n ih =>
    intro x y acc h hx
    rcases Nat.lt_or_ge x p.size with hlt | hge
    · by_cases h93 : bt p x = 93
      · rw [classGo, dif_neg (fun h => h.2 h93), at_cons p x hlt, ranges_stop _ _ _ h93]
        by_cases hacc : acc = []
        · rw [if_pos hacc]
          exact .inr (.inr hacc)
        · rw [if_neg hacc]
          exact ⟨rfl, rfl, hlt, rfl, hacc⟩
      · have h1 := byteA_lt p x
        have h1' := byteA_le p x hlt
        have h2 := byteA_lt p (byteA p x + 1)
        rw [classGo, dif_pos ⟨hlt, h93⟩, at_cons p x hlt]
        have hb := byteL_at p x hlt
        rw [at_cons p x hlt] at hb
        rcases hb with ⟨e1, e2⟩ | ⟨e1, e2⟩
        · rw [e2 y]
          by_cases hd : byteA p x + 1 < p.size ∧ bt p (byteA p x) = 45 ∧ bt p (byteA p x + 1) ≠ 93
          · rw [if_pos hd]
            rw [at_cons p (byteA p x) (by omega), at_cons p (byteA p x + 1) hd.1, hd.2.1] at e1
            rw [ranges_two _ _ _ h93 _ _ _ e1 hd.2.2]
            have hb2 := byteL_at p (byteA p x + 1) hd.1
            rw [at_cons p (byteA p x + 1) hd.1] at hb2
            rcases hb2 with ⟨g1, g2⟩ | ⟨g1, g2⟩
            · rw [g1, g2 y]
              simp only
              by_cases hlh : byteV p (byteA p x + 1) < byteV p x
              · rw [if_pos hlh, if_pos hlh]
                exact class_says_bad (classGo_mono p fr n _ _ _ (by omega) (wrongAt_nonneg (by omega))) rfl
              · rw [if_neg hlh, if_neg hlh]
                exact ih _ _ _ (by omega) (byteA_le p _ hd.1)
            · rw [g1]
              refine class_says_bad (classGo_mono p fr n _ _ _ (by omega) ?_) rfl
              split
              · exact wrongAt_nonneg (by omega)
              · exact g2 y
          · rw [if_neg hd]
            rw [ranges_one _ _ _ h93 _ _ e1 ?_]
            · exact ih _ _ _ (by omega) h1'
            · intro d r2 he
              rcases Nat.lt_or_ge (byteA p x) p.size with k1 | k1
              · rw [at_cons p _ k1] at he
                rcases Nat.lt_or_ge (byteA p x + 1) p.size with k2 | k2
                · rw [at_cons p _ k2] at he
                  injection he with he1 he2
                  injection he2 with he2 he3
                  rw [← he2]
                  by_cases h : bt p (byteA p x + 1) = 93
                  · exact h
                  · exact absurd ⟨k2, he1, h⟩ hd
                · rw [at_nil p _ k2] at he
                  simp at he
              · rw [at_nil p _ k1] at he
                simp at he
        · rw [ranges_none _ _ _ h93 e1]
          refine class_says_bad ?_ rfl
          split
          · refine classGo_mono p fr n _ _ _ (by omega) ?_
            split
            · exact wrongAt_nonneg (by omega)
            · exact byteB_mono _ _ _ (e2 y)
          · exact classGo_mono p fr n _ _ _ (by omega) (e2 y)
    · rw [classGo, dif_neg (by omega), at_nil p x hge, rangesL]
      exact .inr (.inl hge)
theorem classBad_mono {p : ByteArray} {fr : Nat} {F : Nat × Int × List (Int × Int)} (h : 0 ≤ F.2.1) : 0 ≤ classBad p fr F := by
  unfold classBad
  split
  · exact wrongAt_nonneg (by omega)
  · exact h
/-! ### the steps -/
theorem parse_nil : parseL [] = some [] := by rw [parseL]
theorem parse_all (r : List Int) : parseL (42 :: 42 :: r) = (parseL r).map (⟨true, fun _ => true⟩ :: ·) := by
  rw [parseL]
  simp
theorem parse_plain (r : List Int) (h : r.head? ≠ some 42) : parseL (42 :: r) = (parseL r).map (⟨true, fun c => c != 47⟩ :: ·) := by
  rw [parseL, if_pos rfl, if_neg h]
theorem parse_quest (r : List Int) : parseL (63 :: r) = (parseL r).map (⟨false, fun c => c != 47⟩ :: ·) := by
  rw [parseL, if_neg (by decide), if_pos rfl]
theorem parse_class_none (r : List Int) (h : rangesL (if r.head? = some 33 then r.tail else r) [] = none) : parseL (91 :: r) = none := by
  rw [parseL, if_neg (by decide), if_neg (by decide), if_pos rfl]
  split
  · rfl
  · rename_i R rest h'
    rw [h] at h'
    cases h'
theorem parse_class (r : List Int) (R : List (Int × Int)) (rest : List Int) (h : rangesL (if r.head? = some 33 then r.tail else r) [] = some (R, rest)) :
    parseL (91 :: r) = (parseL rest).map (⟨false, classL R (decide (r.head? = some 33))⟩ :: ·) := by
  rw [parseL, if_neg (by decide), if_neg (by decide), if_pos rfl]
  split
  · rename_i h'
    rw [h] at h'
    cases h'
  · rename_i R' rest' h'
    rw [h] at h'
    simp only [Option.some.injEq, Prod.mk.injEq] at h'
    obtain ⟨rfl, rfl⟩ := h'
    rfl
theorem parse_byte_none (c : Int) (r : List Int) (h1 : c ≠ 42) (h2 : c ≠ 63) (h3 : c ≠ 91) (h : byteL (c :: r) = none) : parseL (c :: r) = none := by
  rw [parseL, if_neg h1, if_neg h2, if_neg h3]
  split
  · rfl
  · rename_i v rest h'
    rw [h] at h'
    cases h'
theorem parse_byte (c : Int) (r : List Int) (h1 : c ≠ 42) (h2 : c ≠ 63) (h3 : c ≠ 91) (v : Int) (rest : List Int) (h : byteL (c :: r) = some (v, rest)) :
    parseL (c :: r) = (parseL rest).map (⟨false, fun d => d == v⟩ :: ·) := by
  rw [parseL, if_neg h1, if_neg h2, if_neg h3]
  split
  · rename_i h'
    rw [h] at h'
    cases h'
  · rename_i v' rest' h'
    rw [h] at h'
    simp only [Option.some.injEq, Prod.mk.injEq] at h'
    obtain ⟨rfl, rfl⟩ := h'
    rfl
theorem stepsGo_mono (p : ByteArray) : ∀ n (x : Nat) (y : Int) acc, p.size - x ≤ n → 0 ≤ y → 0 ≤ (stepsGo p x y acc).1 := by
  intro n
  induction n with
  | zero => intro x y acc h hy; rw [stepsGo, dif_neg (by omega)]; exact hy
  | succ n ih =>
    intro x y acc h hy
    rw [stepsGo]
    have h1 := byteA_lt p x
    have h2 := clsF_gt p x y
    split
    · split
      · split
        · exact ih _ _ _ (by omega) hy
        · exact ih _ _ _ (by omega) hy
      · split
        · exact ih _ _ _ (by omega) hy
        · split
          · exact ih _ _ _ (by omega) (classBad_mono (classGo_mono p x _ _ _ _ (Nat.le_refl _) hy))
          · exact ih _ _ _ (by omega) (byteB_mono _ _ _ hy)
    · exact hy
def StepsSays (y : Int) (acc : List Stp) (G : Int × List Stp) : Option (List Stp) → Prop
  | some L => G = (y, acc ++ L)
  | none => 0 ≤ G.1
theorem says_map {y : Int} {acc : List Stp} {q : Stp} {G : Int × List Stp} {o : Option (List Stp)} (h : StepsSays y (acc ++ [q]) G o) : StepsSays y acc G (o.map (q :: ·)) := by
  cases o with
  | none => exact h
  | some L =>
    show G = (y, acc ++ q :: L)
    have h' : G = (y, acc ++ [q] ++ L) := h
    rw [h', List.append_assoc]
    rfl
theorem head_at (p : ByteArray) (x : Nat) : (decide ((at_ p x).head? = some 33)) = notAt p x := by
  unfold notAt
  rcases Nat.lt_or_ge x p.size with h | h
  · rw [at_cons p x h]
    simp [h]
    rfl
  · rw [at_nil p x h]
    simp
    omega
theorem stepsGo_says (p : ByteArray) : ∀ n (x : Nat) (y : Int) acc, p.size - x ≤ n → StepsSays y acc (stepsGo p x y acc) (parseL (at_ p x)) := by
  intro n
  induction n with
  | zero =>
    intro x y acc h
    rw [stepsGo, dif_neg (by omega), at_nil p x (by omega), parse_nil]
    show _ = (y, acc ++ [])
    rw [List.append_nil]
  | succ n ih =>
    intro x y acc h
    rcases Nat.lt_or_ge x p.size with hlt | hge
    · have h1 := byteA_lt p x
      have h2 := clsF_gt p x y
      have hb := byteL_at p x hlt
      have hc : at_ p x = bt p x :: at_ p (x + 1) := at_cons p x hlt
      rw [hc] at hb
      rw [stepsGo, dif_pos hlt, hc]
      by_cases c42 : bt p x = 42
      · rw [if_pos c42, c42]
        by_cases c2 : x + 1 < p.size ∧ bt p (x + 1) = 42
        · rw [if_pos c2, at_cons p (x + 1) c2.1, c2.2, parse_all]
          exact says_map (ih _ _ _ (by omega))
        · rw [if_neg c2, parse_plain]
          · exact says_map (ih _ _ _ (by omega))
          · intro hh
            rcases Nat.lt_or_ge (x + 1) p.size with k | k
            · rw [at_cons p _ k] at hh
              simp only [List.head?_cons, Option.some.injEq] at hh
              exact c2 ⟨k, hh⟩
            · rw [at_nil p _ k] at hh
              cases hh
      · rw [if_neg c42]
        by_cases c63 : bt p x = 63
        · rw [if_pos c63, c63, parse_quest]
          exact says_map (ih _ _ _ (by omega))
        · rw [if_neg c63]
          by_cases c91 : bt p x = 91
          · rw [if_pos c91, c91]
            have hh := head_at p (x + 1)
            have hsay : ClassSays p x y (clsF p x y) (rangesL (if (at_ p (x + 1)).head? = some 33 then (at_ p (x + 1)).tail else at_ p (x + 1)) []) := by
              unfold clsF
              rw [← hh]
              by_cases h33 : (at_ p (x + 1)).head? = some 33
              · have hl : x + 1 < p.size := by
                  rcases Nat.lt_or_ge (x + 1) p.size with k | k
                  · exact k
                  · rw [at_nil p _ k] at h33
                    cases h33
                rw [if_pos (by simp [h33]), if_pos h33, at_cons p _ hl, List.tail_cons]
                exact classGo_says p x _ (x + 2) y [] (Nat.le_refl _) (by omega)
              · rw [if_neg (by simp [h33]), if_neg h33]
                exact classGo_says p x _ (x + 1) y [] (Nat.le_refl _) (by omega)
            cases ho : rangesL (if (at_ p (x + 1)).head? = some 33 then (at_ p (x + 1)).tail else at_ p (x + 1)) [] with
            | none =>
              rw [ho] at hsay
              rw [parse_class_none _ ho]
              refine stepsGo_mono p n _ _ _ (by omega) ?_
              unfold classBad
              rcases hsay with h | h
              · split
                · exact wrongAt_nonneg (by omega)
                · exact h
              · rw [if_pos h]
                exact wrongAt_nonneg (by omega)
            | some o =>
              obtain ⟨R, rest⟩ := o
              rw [ho] at hsay
              obtain ⟨e1, e2, e3, e4, e5⟩ := hsay
              rw [parse_class _ _ _ ho, hh]
              have hbad : classBad p x (clsF p x y) = y := by
                unfold classBad
                rw [if_neg (by rintro (h | h); · omega
                               · rw [e1] at h; exact e5 h), e2]
              rw [hbad, e1, e4]
              exact says_map (ih _ _ _ (by omega))
          · rw [if_neg c91]
            rcases hb with ⟨g1, g2⟩ | ⟨g1, g2⟩
            · rw [parse_byte _ _ c42 c63 c91 _ _ g1, g2 y]
              exact says_map (ih _ _ _ (by omega))
            · rw [parse_byte_none _ _ c42 c63 c91 g1]
              exact stepsGo_mono p n _ _ _ (by omega) (g2 y)
    · rw [stepsGo, dif_neg (by omega), at_nil p x hge, parse_nil]
      show _ = (y, acc ++ [])
      rw [List.append_nil]
/-- What Match and Check say of a pattern that can be read. -/
theorem read_yes {p : ByteArray} {L : List Stp} (hp : p.size ≤ 256) (h : parseL (bl p) = some L) : checkRes p = (0, 0) ∧ gSteps p = (-1, L) := by
  have hs := stepsGo_says p _ 0 (-1) [] (Nat.le_refl _)
  have e : at_ p 0 = bl p := by simp [at_]
  rw [e, h] at hs
  have hs' : gSteps p = (-1, [] ++ L) := hs
  rw [List.nil_append] at hs'
  refine ⟨?_, hs'⟩
  unfold checkRes
  rw [if_neg (by omega), hs', if_neg (by simp)]
theorem read_no {p : ByteArray} (h : (checkRes p).2 = 0) : p.size ≤ 256 ∧ ∃ L, parseL (bl p) = some L := by
  unfold checkRes at h
  by_cases h1 : 256 < p.size
  · rw [if_pos h1] at h
    simp at h
  · rw [if_neg h1] at h
    refine ⟨by omega, ?_⟩
    cases hL : parseL (bl p) with
    | some L => exact ⟨L, rfl⟩
    | none =>
      have hs := stepsGo_says p _ 0 (-1) [] (Nat.le_refl _)
      have e : at_ p 0 = bl p := by simp [at_]
      rw [e, hL] at hs
      have hs' : 0 ≤ (gSteps p).1 := hs
      rw [if_pos hs'] at h
      simp at h
theorem match_yes {p s : ByteArray} {L : List Stp} (hp : p.size ≤ 256) (h : parseL (bl p) = some L) : (matchRes p s).2 = 0 ∧ ((matchRes p s).1 = true ↔ Mat L (bl s)) := by
  obtain ⟨h1, h2⟩ := read_yes hp h
  unfold matchRes
  rw [h1, h2, if_pos rfl]
  exact ⟨rfl, marks_end L s⟩
end Go.Proofs.Ytofgjlfgpnmmdaa.G
