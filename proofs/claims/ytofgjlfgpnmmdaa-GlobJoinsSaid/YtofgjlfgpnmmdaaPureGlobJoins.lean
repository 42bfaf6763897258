/- GlobJoins: two patterns, one behind the other, match what can be cut into two parts that they match: for all patterns and texts that the law's guards let in. -/
import Derived.Test.YtofgjlfgpnmmdaaPAx2
import Derived.Test.YtofgjlfgpnmmdaaGt
namespace Go.Proofs.Ytofgjlfgpnmmdaa.Pure
open Go.RowKit Go.Proofs.Ytofgjlfgpnmmdaa.PA Go.Proofs.YtofgjlfgpnmmdaaW.PrintWords Go.Proofs.YtofgjlfgpnmmdaaW.PrintLast
set_option linter.unusedVariables false
theorem bl_extract (s : ByteArray) (i j : Nat) : G.bl (s.extract i j) = ((G.bl s).take j).drop i := by
  unfold G.bl
  simp [List.map_take, List.map_drop, List.drop_take]
def both (p q s : ByteArray) (j : Nat) : Bool := (G.matchRes p (s.extract 0 j)).1 && (G.matchRes q (s.extract j s.size)).1
def wantTo (p q s : ByteArray) (i : Nat) : Bool := (List.range i).any (both p q s)
theorem want_succ (p q s : ByteArray) (i : Nat) : wantTo p q s (i + 1) = (wantTo p q s i || both p q s i) := by
  unfold wantTo
  rw [List.range_succ, List.any_append]
  simp
theorem joins_loop (p q s : ByteArray) (hp : p.size ≤ 256) (hq : q.size ≤ 256) (hn : s.size ≤ 200) (d : Nat) : ∀ (k i : Nat), s.size + 1 - i = d → i ≤ s.size + 1 → d < k →
    shuttlelaw6_GlobJoins.l0 k p q s (wantTo p q s i) i = shuttlelaw6_GlobJoins.l0 1 p q s (wantTo p q s (s.size + 1)) ((s.size + 1 : Nat) : Int) := by
  induction d with
  | zero =>
    intro k i hd hi hk
    obtain ⟨k, rfl⟩ : ∃ m, k = m + 1 := ⟨k - 1, by omega⟩
    obtain rfl : i = s.size + 1 := by omega
    have hc : ¬ (((s.size + 1 : Nat) : Int) ≤ (s.size : Int)) := by omega
    simp only [shuttlelaw6_GlobJoins.l0, if_neg hc]
  | succ d ih =>
    intro k i hd hi hk
    obtain ⟨k, rfl⟩ : ∃ m, k = m + 1 := ⟨k - 1, by omega⟩
    rw [← ih k (i + 1) (by omega) (by omega) (by omega)]
    conv => lhs; unfold shuttlelaw6_GlobJoins.l0
    rw [if_pos (by omega), if_pos (by omega), G.wrap_up (n := i + 1) (by omega) (by omega)]
    have e1 : ((i : Int)).toNat = i := by omega
    rw [e1, G.match_f (by omega) (by simp; omega), G.match_f (by omega) (by simp; omega)]
    simp only [Option.bind_some]
    rw [want_succ]
    by_cases h : wantTo p q s i = true
    · rw [if_pos h, h]
      rfl
    · rw [if_neg h, Bool.eq_false_iff.2 h, Bool.false_or]
      unfold both
      by_cases h2 : (G.matchRes p (s.extract 0 i)).1 = true
      · rw [if_pos h2, h2, Bool.true_and]
      · rw [if_neg h2, Bool.eq_false_iff.2 h2, Bool.false_and]
theorem joins_yes (k : Nat) (p q s : ByteArray) : shuttlelaw6_GlobJoins.j0 (k + 1) p q s true = some true := by
  simp only [shuttlelaw6_GlobJoins.j0]
  rw [if_pos trivial, G.awake_true]
  rfl
theorem joins_no (p q s : ByteArray) (L M : List G.Stp) (hpq : p.size + q.size ≤ 256) (hn : s.size ≤ 200) (hL : G.parseL (G.bl p) = some L) (hM : G.parseL (G.bl q) = some M)
    (hc : (G.bl p).getLast? = some 42 → (G.bl q).head? ≠ some 42) : shuttlelaw6_GlobJoins.j0 (s.size + 3) p q s false = some true := by
  simp only [shuttlelaw6_GlobJoins.j0]
  rw [if_neg (by simp)]
  have h := joins_loop p q s (by omega) (by omega) hn (s.size + 1) (s.size + 2) 0 rfl (Nat.zero_le _) (by omega)
  rw [show wantTo p q s 0 = false from rfl] at h
  rw [show (0 : Int) = ((0 : Nat) : Int) from rfl, h]
  simp only [shuttlelaw6_GlobJoins.l0]
  have hsz : (p ++ q).size = p.size + q.size := ByteArray.size_append
  rw [if_neg (by omega), if_pos (by omega), G.match_f (by omega) (by omega)]
  have hpar : G.parseL (G.bl (p ++ q)) = some (L ++ M) := by
    rw [G.bl_append, G.parse_join _ _ L (Nat.le_refl _) hL _ hc, hM]
    rfl
  obtain ⟨m1, m2⟩ := G.match_yes (s := s) (by omega) hpar
  simp only [Option.bind_some]
  rw [if_pos m1, G.awake_true]
  have key : ((G.matchRes (p ++ q) s).1 == wantTo p q s (s.size + 1)) = true := by
    rw [beq_iff_eq, Bool.eq_iff_iff, m2, G.Mat_append]
    unfold wantTo
    rw [List.any_eq_true]
    constructor
    · rintro ⟨u1, u2, he, h1, h2⟩
      have hl : u1.length ≤ s.size := by
        have := congrArg List.length he
        rw [G.bl_length, List.length_append] at this
        omega
      refine ⟨u1.length, List.mem_range.2 (by omega), ?_⟩
      unfold both
      rw [Bool.and_eq_true, (G.match_yes (by omega) hL).2, (G.match_yes (by omega) hM).2, bl_extract, bl_extract, he]
      have e2 : s.size = (u1 ++ u2).length := by rw [← he, G.bl_length]
      rw [e2, List.take_length, List.take_left, List.drop_zero, List.drop_left]
      exact ⟨h1, h2⟩
    · rintro ⟨j, hj, hb⟩
      unfold both at hb
      rw [Bool.and_eq_true, (G.match_yes (by omega) hL).2, (G.match_yes (by omega) hM).2, bl_extract, bl_extract, List.drop_zero] at hb
      refine ⟨_, _, ?_, hb.1, hb.2⟩
      rw [List.take_of_length_le (l := G.bl s) (i := s.size) (by rw [G.bl_length]; exact Nat.le_refl _), List.take_append_drop]
  rw [if_pos key]
  rfl
theorem GlobJoins : shuttlelaw6_GlobJoins.Pure := by
  intro p q s hp hq hs
  refine ⟨s.size + 3, ?_⟩
  unfold shuttlelaw6_GlobJoins.f
  rw [G.check_f (by omega), G.check_f (by omega)]
  simp only [Option.bind_some]
  have hy := joins_yes (s.size + 2) p q s
  by_cases h0 : (G.checkRes p).2 = 0
  · rw [if_pos h0]
    by_cases h1 : (G.checkRes q).2 = 0
    · rw [if_pos h1]
      have hw : wrap64 ((p.size : Int) + (q.size : Int)) = (p.size : Int) + (q.size : Int) := by unfold wrap64; omega
      rw [hw]
      by_cases h2 : (p.size : Int) + (q.size : Int) > 256
      · rw [if_pos h2]; exact hy
      · rw [if_neg h2]
        by_cases h3 : (s.size : Int) > 200
        · rw [if_pos h3]; exact hy
        · rw [if_neg h3]
          obtain ⟨_, L, hL⟩ := G.read_no h0
          obtain ⟨_, M, hM⟩ := G.read_no h1
          have hno := joins_no p q s L M (by omega) (by omega) hL hM
          have hnil : ∀ x : ByteArray, x.toList = [] → G.bl x = [] := by
            intro x hx
            rw [ByteArray.toList_eq] at hx
            unfold G.bl
            rw [hx]
            rfl
          by_cases h4 : p.toList = []
          · rw [if_pos h4]
            exact hno (by rw [hnil p h4]; intro h; cases h)
          · rw [if_neg h4]
            by_cases h5 : q.toList = []
            · rw [if_pos h5]
              exact hno (by rw [hnil q h5]; intro _ h; cases h)
            · rw [if_neg h5]
              have hpos : ∀ x : ByteArray, x.toList ≠ [] → 0 < x.size := by
                intro x hx
                rcases Nat.eq_zero_or_pos x.size with h | h
                · exfalso
                  apply hx
                  rw [ByteArray.toList_eq]
                  exact List.eq_nil_of_length_eq_zero (by simpa using h)
                · exact h
              have hp0 := hpos p h4
              have hq0 := hpos q h5
              have hw1 : wrap64 ((p.size : Int) - 1) = ((p.size - 1 : Nat) : Int) := by unfold wrap64; omega
              rw [hw1, if_pos (by omega), if_pos (by omega)]
              have hlast : (G.bl p).getLast? = some (G.bt p (p.size - 1)) := by rw [List.getLast?_eq_getElem?, G.bl_length, G.bl_at p _ (by omega)]
              have hhead : (G.bl q).head? = some (G.bt q 0) := by rw [List.head?_eq_getElem?, G.bl_at q 0 hq0]
              rw [G.bt_g p (p.size - 1) bt (by funext s i; rfl)]
              by_cases h6 : G.bt p (p.size - 1) = 42
              · rw [if_pos h6, if_pos (by omega)]
                rw [show (0 : Int) = ((0 : Nat) : Int) from rfl, G.bt_g q 0 bt (by funext s i; rfl)]
                by_cases h7 : G.bt q 0 = 42
                · rw [beq_iff_eq.2 h7]; exact hy
                · rw [beq_eq_false_iff_ne.2 h7]
                  exact hno (by rw [hhead]; intro _ h; exact h7 (Option.some.inj h))
              · rw [if_neg h6]
                exact hno (by rw [hlast]; intro h; exact absurd (Option.some.inj h) h6)
    · rw [if_neg h1]; exact hy
  · rw [if_neg h0]; exact hy
end Go.Proofs.Ytofgjlfgpnmmdaa.Pure
