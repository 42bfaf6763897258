/- Two patterns, one behind the other, are read one behind the other. -/
import Derived.Test.YtofgjlfgpnmmdaaGs
namespace Go.Proofs.Ytofgjlfgpnmmdaa.G
open Go.RowKit
set_option linter.unusedVariables false
set_option linter.unusedSimpArgs false
theorem bt_g (s : ByteArray) (i : Nat) (f : ByteArray → Int → Int) (hf : f = fun s i => if h : i.toNat < s.size then ((s[i.toNat]'h).toNat : Int) else 0) : f s (i : Int) = bt s i := by subst hf; unfold bt; simp
theorem wrap_up {i : Nat} {n : Nat} (h : i < n) (hn : n ≤ 140737488351232) : wrap64 ((i : Int) + 1) = ((i + 1 : Nat) : Int) := by
  unfold wrap64
  omega
theorem bl_append (a b : ByteArray) : bl (a ++ b) = bl a ++ bl b := by
  unfold bl
  rw [ByteArray.data_append, Array.toList_append, List.map_append]
theorem suffix_last {r l : List Int} {x : Int} (h : r <:+ l) (hr : r.getLast? = some x) : l.getLast? = some x := by
  obtain ⟨p, rfl⟩ := h
  rw [List.getLast?_append, hr]
  rfl
theorem byteL_join {l : List Int} {c : Int} {r : List Int} (h : byteL l = some (c, r)) (b : List Int) : byteL (l ++ b) = some (c, r ++ b) ∧ r <:+ l := by
  cases l with
  | nil => cases h
  | cons x l =>
    simp only [byteL, List.cons_append] at h ⊢
    split at h
    · rename_i h1
      cases l with
      | nil => cases h
      | cons d l =>
        simp only [Option.some.injEq, Prod.mk.injEq] at h
        obtain ⟨rfl, rfl⟩ := h
        rw [if_pos h1]
        exact ⟨rfl, ⟨[x, d], rfl⟩⟩
    · rename_i h1
      simp only [Option.some.injEq, Prod.mk.injEq] at h
      obtain ⟨rfl, rfl⟩ := h
      rw [if_neg h1]
      exact ⟨rfl, ⟨[x], rfl⟩⟩
theorem rangesL_join : ∀ n (l : List Int) acc R r, l.length ≤ n → rangesL l acc = some (R, r) → ∀ b, rangesL (l ++ b) acc = some (R, r ++ b) ∧ r <:+ l := by
  intro n
  induction n with
  | zero =>
    intro l acc R r h
    have : l = [] := List.eq_nil_of_length_eq_zero (by omega)
    subst this
    rw [rangesL]
    intro h
    cases h
  | succ n ih =>
    intro l acc R r hl h b
    cases l with
    | nil => rw [rangesL] at h; cases h
    | cons c l =>
      by_cases h93 : c = 93
      · rw [ranges_stop _ _ _ h93] at h
        rw [List.cons_append, ranges_stop _ _ _ h93]
        split at h
        · cases h
        · rename_i hacc
          simp only [Option.some.injEq, Prod.mk.injEq] at h
          obtain ⟨rfl, rfl⟩ := h
          rw [if_neg hacc]
          exact ⟨rfl, ⟨[c], rfl⟩⟩
      · cases hb : byteL (c :: l) with
        | none => rw [ranges_none _ _ _ h93 hb] at h; cases h
        | some o =>
          obtain ⟨lo, r1⟩ := o
          obtain ⟨j1, j2⟩ := byteL_join hb b
          have hlen := byteL_len hb
          simp only [List.length_cons] at hl hlen
          rw [List.cons_append] at j1 ⊢
          by_cases hd : ∃ d r2, r1 = 45 :: d :: r2 ∧ d ≠ 93
          · obtain ⟨d, r2, rfl, hd⟩ := hd
            rw [ranges_two _ _ _ h93 _ _ _ hb hd] at h
            rw [ranges_two _ _ _ h93 lo d (r2 ++ b) (by simpa using j1) hd]
            cases hb2 : byteL (d :: r2) with
            | none => rw [hb2] at h; cases h
            | some o2 =>
              obtain ⟨hi, r3⟩ := o2
              obtain ⟨k1, k2⟩ := byteL_join hb2 b
              have hlen2 := byteL_len hb2
              rw [hb2] at h
              rw [← List.cons_append, k1]
              simp only at h ⊢
              split at h
              · cases h
              · rename_i hlh
                rw [if_neg hlh]
                simp only [List.length_cons] at hlen hlen2
                obtain ⟨e1, e2⟩ := ih _ _ _ _ (by omega) h b
                exact ⟨e1, (e2.trans k2).trans (((List.suffix_cons 45 (d :: r2))).trans j2)⟩
          · have hr : ∀ d r2, r1 = 45 :: d :: r2 → d = 93 := fun d r2 e => by
              by_cases h : d = 93
              · exact h
              · exact absurd ⟨d, r2, e, h⟩ hd
            rw [ranges_one _ _ _ h93 _ _ hb hr] at h
            obtain ⟨e1, e2⟩ := ih _ _ _ _ (by omega) h b
            rw [ranges_one _ _ _ h93 lo (r1 ++ b) j1 ?_]
            · exact ⟨e1, e2.trans j2⟩
            · intro d r2 e
              cases r1 with
              | nil => rw [rangesL] at h; cases h
              | cons x r1 =>
                cases r1 with
                | nil =>
                  simp only [List.cons_append, List.nil_append, List.cons.injEq] at e
                  obtain ⟨rfl, _⟩ := e
                  rw [ranges_one 45 [] _ (by decide) 45 [] rfl (fun d r2 h => by cases h)] at h
                  rw [rangesL] at h
                  cases h
                | cons y r1 =>
                  simp only [List.cons_append, List.cons.injEq] at e
                  obtain ⟨rfl, rfl, _⟩ := e
                  exact hr y r1 rfl
theorem parse_join : ∀ n (a : List Int) L, a.length ≤ n → parseL a = some L → ∀ b, (a.getLast? = some 42 → b.head? ≠ some 42) → parseL (a ++ b) = (parseL b).map (L ++ ·) := by
  intro n
  induction n with
  | zero =>
    intro a L h hp b _
    have : a = [] := List.eq_nil_of_length_eq_zero (by omega)
    subst this
    rw [parse_nil] at hp
    cases hp
    simp
  | succ n ih =>
    intro a L hl hp b hc
    cases a with
    | nil =>
      rw [parse_nil] at hp
      cases hp
      simp
    | cons c r =>
      have step : ∀ (q : Stp) (r' : List Int) L', r' <:+ (c :: r) → r'.length ≤ n → parseL r' = some L' → (parseL (r' ++ b)).map (q :: ·) = (parseL b).map ((q :: L') ++ ·) := by
        intro q r' L' hs hn h'
        rw [ih r' L' hn h' b (fun h => hc (suffix_last hs h))]
        cases parseL b <;> rfl
      have fin : ∀ (q : Stp) (o : Option (List Stp)), o.map (q :: ·) = some L → ∃ L', o = some L' ∧ L = q :: L' := by
        intro q o h
        cases o with
        | none => cases h
        | some L' => simp only [Option.map_some, Option.some.injEq] at h; exact ⟨L', rfl, h.symm⟩
      simp only [List.length_cons] at hl
      by_cases c42 : c = 42
      · subst c42
        cases r with
        | nil =>
          rw [parse_plain [] (by simp)] at hp
          obtain ⟨L', h1, rfl⟩ := fin _ _ hp
          rw [List.cons_append, List.nil_append, parse_plain b (hc rfl)]
          exact step _ [] L' ⟨[42], rfl⟩ (by simp) h1
        | cons d r =>
          by_cases hd : d = 42
          · subst hd
            rw [parse_all] at hp
            obtain ⟨L', h1, rfl⟩ := fin _ _ hp
            rw [List.cons_append, List.cons_append, parse_all]
            exact step _ r L' ⟨[42, 42], rfl⟩ (by simp at hl; omega) h1
          · rw [parse_plain (d :: r) (by simp [hd])] at hp
            obtain ⟨L', h1, rfl⟩ := fin _ _ hp
            rw [List.cons_append, parse_plain _ (by simp [hd])]
            exact step _ (d :: r) L' ⟨[42], rfl⟩ (by omega) h1
      · by_cases c63 : c = 63
        · subst c63
          rw [parse_quest] at hp
          obtain ⟨L', h1, rfl⟩ := fin _ _ hp
          rw [List.cons_append, parse_quest]
          exact step _ r L' ⟨[63], rfl⟩ (by omega) h1
        · by_cases c91 : c = 91
          · subst c91
            cases ho : rangesL (if r.head? = some 33 then r.tail else r) [] with
            | none => rw [parse_class_none _ ho] at hp; cases hp
            | some o =>
              obtain ⟨R, rest⟩ := o
              rw [parse_class _ _ _ ho] at hp
              obtain ⟨L', h1, rfl⟩ := fin _ _ hp
              obtain ⟨e1, e2⟩ := rangesL_join _ _ _ _ _ (Nat.le_refl _) ho b
              have hlen := rangesL_len _ _ _ _ _ (Nat.le_refl _) ho
              have hne : r ≠ [] := by
                rintro rfl
                have h' : rangesL [] [] = some (R, rest) := ho
                rw [rangesL] at h'
                cases h'
              obtain ⟨x, r, rfl⟩ := List.exists_cons_of_ne_nil hne
              have hh : ((x :: r) ++ b).head? = (x :: r).head? := rfl
              rw [List.cons_append, parse_class _ R (rest ++ b) ?_, hh]
              · refine step _ rest L' ?_ ?_ h1
                · refine e2.trans ?_
                  split
                  · exact ⟨[91, x], rfl⟩
                  · exact ⟨[91], rfl⟩
                · split at hlen <;> simp at hlen hl <;> omega
              · rw [hh]
                split at e1
                · rw [if_pos (by assumption)]
                  exact e1
                · rw [if_neg (by assumption)]
                  exact e1
          · cases hb : byteL (c :: r) with
            | none => rw [parse_byte_none _ _ c42 c63 c91 hb] at hp; cases hp
            | some o =>
              obtain ⟨v, rest⟩ := o
              rw [parse_byte _ _ c42 c63 c91 _ _ hb] at hp
              obtain ⟨L', h1, rfl⟩ := fin _ _ hp
              obtain ⟨e1, e2⟩ := byteL_join hb b
              have hlen := byteL_len hb
              simp only [List.length_cons] at hlen
              rw [List.cons_append] at e1 ⊢
              rw [parse_byte _ _ c42 c63 c91 _ _ e1]
              exact step _ rest L' e2 (by omega) h1
end Go.Proofs.Ytofgjlfgpnmmdaa.G
