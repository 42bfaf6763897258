/- GlobPlain: a text with a backslash ahead of each byte matches just itself; so does one without special bytes: for all texts. -/
import Derived.Test.YtofgjlfgpnmmdaaPAx1
import Derived.Test.YtofgjlfgpnmmdaaGu
namespace Go.Proofs.Ytofgjlfgpnmmdaa.Pure
open Go.RowKit Go.Proofs.Ytofgjlfgpnmmdaa.PA Go.Proofs.YtofgjlfgpnmmdaaW.PrintWords Go.Proofs.YtofgjlfgpnmmdaaW.PrintLast
set_option linter.unusedVariables false
/-- Each byte with a backslash ahead. -/
def escd (l : List Int) : List Int := l.flatMap fun c => [92, c]
def lits (l : List Int) : List G.Stp := l.map fun b => ⟨false, fun c => c == b⟩
theorem parse_escd : ∀ l, G.parseL (escd l) = some (lits l) := by
  intro l
  induction l with
  | nil => exact G.parse_nil
  | cons c l ih =>
    show G.parseL (92 :: c :: escd l) = _
    rw [G.parse_byte 92 (c :: escd l) (by decide) (by decide) (by decide) c (escd l) rfl, ih]
    rfl
theorem parse_bare : ∀ l : List Int, (∀ c ∈ l, c ≠ 42 ∧ c ≠ 63 ∧ c ≠ 91 ∧ c ≠ 92) → G.parseL l = some (lits l) := by
  intro l
  induction l with
  | nil => intro _; exact G.parse_nil
  | cons c l ih =>
    intro h
    obtain ⟨h1, h2, h3, h4⟩ := h c (by simp)
    rw [G.parse_byte c l h1 h2 h3 c l (by simp [G.byteL, h4]), ih (fun d hd => h d (by simp [hd]))]
    rfl
theorem lit_loop (s : ByteArray) (hn : s.size ≤ 1000) (d : Nat) : ∀ (k i : Nat), s.size - i = d → i ≤ s.size → d < k →
    shuttlelaw6_literal.l0 k s (escd ((G.bl s).take i)) i = some (strOfNums (escd (G.bl s))) := by
  induction d with
  | zero =>
    intro k i hd hi hk
    obtain ⟨k, rfl⟩ : ∃ m, k = m + 1 := ⟨k - 1, by omega⟩
    obtain rfl : i = s.size := by omega
    simp only [shuttlelaw6_literal.l0]
    rw [if_neg (by omega), List.take_of_length_le (by rw [G.bl_length]; exact Nat.le_refl _)]
  | succ d ih =>
    intro k i hd hi hk
    obtain ⟨k, rfl⟩ : ∃ m, k = m + 1 := ⟨k - 1, by omega⟩
    simp only [shuttlelaw6_literal.l0]
    rw [if_pos (by omega), if_pos (by omega), G.bt_g s i bt (by funext s i; rfl), G.wrap_up (n := s.size) (by omega) (by omega)]
    simp only [Option.bind_some]
    have hlen : (escd ((G.bl s).take i)).length = 2 * i := by
      unfold escd
      have e1 : ((G.bl s).take i).length = i := by rw [List.length_take, G.bl_length]; omega
      have e2 : ∀ l : List Int, (l.flatMap fun c => [92, c]).length = 2 * l.length := by
        intro l
        induction l with
        | nil => rfl
        | cons c l ih => simp at ih ⊢; omega
      rw [e2, e1]
    rw [if_pos (by rw [hlen]; simp; omega), ← ih k (i + 1) (by omega) (by omega) (by omega), G.bl_take s i (by omega)]
    simp [escd]
theorem escd_range (s : ByteArray) : ∀ c ∈ escd (G.bl s), 0 ≤ c ∧ c ≤ 255 := by
  intro c hc
  unfold escd at hc
  obtain ⟨d, hd, hc⟩ := List.mem_flatMap.1 hc
  simp only [List.mem_cons, List.not_mem_nil, or_false] at hc
  rcases hc with rfl | rfl
  · omega
  · exact G.bl_range s _ hd
theorem escd_length (l : List Int) : (escd l).length = 2 * l.length := by
  unfold escd
  induction l with
  | nil => rfl
  | cons c l ih => simp at ih ⊢; omega
def bareTo (s : ByteArray) (i : Nat) : Prop := ∀ c ∈ (G.bl s).take i, c ≠ 42 ∧ c ≠ 63 ∧ c ≠ 91 ∧ c ≠ 92
theorem plain_loop (s t : ByteArray) (hn : s.size ≤ 128) (ht : t.size ≤ 140737488351232) (d : Nat) : ∀ (k i : Nat), s.size - i = d → i ≤ s.size → d < k → bareTo s i →
    shuttlelaw6_GlobPlain.l0 k s t i = some true := by
  induction d with
  | zero =>
    intro k i hd hi hk hb
    obtain ⟨k, rfl⟩ : ∃ m, k = m + 1 := ⟨k - 1, by omega⟩
    obtain rfl : i = s.size := by omega
    unfold bareTo at hb
    rw [List.take_of_length_le (by rw [G.bl_length]; exact Nat.le_refl _)] at hb
    simp only [shuttlelaw6_GlobPlain.l0]
    rw [if_neg (by omega), G.match_f (by omega) (by omega)]
    obtain ⟨m1, m2⟩ := G.match_yes (s := t) (by omega) (parse_bare (G.bl s) hb)
    simp only [Option.bind_some]
    rw [if_pos m1, G.awake_true]
    have key : ((G.matchRes s t).1 == (s.toList == t.toList)) = true := by
      rw [beq_iff_eq, Bool.eq_iff_iff, m2]
      unfold lits
      rw [G.Mat_bytes, beq_iff_eq]
      constructor
      · intro h; rw [G.bl_inj h]
      · intro h
        rw [ByteArray.toList_eq, ByteArray.toList_eq] at h
        unfold G.bl
        rw [h]
    rw [if_pos key]
    rfl
  | succ d ih =>
    intro k i hd hi hk hb
    obtain ⟨k, rfl⟩ : ∃ m, k = m + 1 := ⟨k - 1, by omega⟩
    simp only [shuttlelaw6_GlobPlain.l0]
    rw [if_pos (by omega), if_pos (by omega), G.bt_g s i bt (by funext s i; rfl), G.wrap_up (n := s.size) (by omega) (by omega), G.awake_true]
    by_cases h1 : G.bt s i = 42
    · rw [if_pos h1]; rfl
    · by_cases h2 : G.bt s i = 63
      · rw [if_neg h1, if_pos h2]; rfl
      · by_cases h3 : G.bt s i = 91
        · rw [if_neg h1, if_neg h2, if_pos h3]; rfl
        · by_cases h4 : G.bt s i = 92
          · rw [if_neg h1, if_neg h2, if_neg h3, if_pos h4]; rfl
          · rw [if_neg h1, if_neg h2, if_neg h3, if_neg h4]
            refine ih k (i + 1) (by omega) (by omega) (by omega) ?_
            unfold bareTo at hb ⊢
            rw [G.bl_take s i (by omega)]
            intro c hc
            rcases List.mem_append.1 hc with hc | hc
            · exact hb c hc
            · rw [List.mem_singleton.1 hc]
              exact ⟨h1, h2, h3, h4⟩
theorem GlobPlain : shuttlelaw6_GlobPlain.Pure := by
  intro s t hs ht
  refine ⟨s.size + 2, ?_⟩
  unfold shuttlelaw6_GlobPlain.f
  by_cases h0 : (s.size : Int) > 128
  · rw [if_pos h0, G.awake_true]
    rfl
  · rw [if_neg h0]
    have hl : shuttlelaw6_literal.f (s.size + 2) s = some (strOfNums (escd (G.bl s))) := by
      unfold shuttlelaw6_literal.f
      exact lit_loop s (by omega) s.size (s.size + 2) 0 rfl (Nat.zero_le _) (by omega)
    have hsz : (strOfNums (escd (G.bl s))).size ≤ 256 := by
      rw [G.size_strOf, escd_length, G.bl_length]
      omega
    have hpar : G.parseL (G.bl (strOfNums (escd (G.bl s)))) = some (lits (G.bl s)) := by
      rw [G.bl_strOf _ (escd_range s), parse_escd]
    rw [hl]
    simp only [Option.bind_some]
    rw [G.match_f (by omega) (by omega), G.match_f (by omega) (by omega)]
    simp only [Option.bind_some]
    obtain ⟨m1, m2⟩ := G.match_yes (s := s) hsz hpar
    obtain ⟨m3, m4⟩ := G.match_yes (s := t) hsz hpar
    have m5 : (G.matchRes (strOfNums (escd (G.bl s))) s).1 = true := m2.2 ((G.Mat_bytes _ _).2 rfl)
    have m6 : ((G.matchRes (strOfNums (escd (G.bl s))) t).1 != (s.toList == t.toList)) = false := by
      rw [bne_eq_false_iff_eq, Bool.eq_iff_iff, m4]
      unfold lits
      rw [G.Mat_bytes, beq_iff_eq]
      constructor
      · intro h; rw [G.bl_inj h]
      · intro h
        rw [ByteArray.toList_eq, ByteArray.toList_eq] at h
        unfold G.bl
        rw [h]
    rw [if_pos m5, if_pos m1, if_pos m3, m6]
    simp only [shuttlelaw6_GlobPlain.j0]
    rw [if_neg (by simp)]
    exact plain_loop s t (by omega) ht s.size (s.size + 1) 0 rfl (Nat.zero_le _) (by omega) (fun c hc => by simp at hc)
end Go.Proofs.Ytofgjlfgpnmmdaa.Pure
