/- GlobWithin: what a pattern matches, it matches within any text with two stars on both sides: for every pattern and all texts. -/
import Derived.Test.YtofgjlfgpnmmdaaPAx4
import Derived.Test.YtofgjlfgpnmmdaaGt
namespace Go.Proofs.Ytofgjlfgpnmmdaa.Pure
open Go.RowKit Go.Proofs.Ytofgjlfgpnmmdaa.PA Go.Proofs.YtofgjlfgpnmmdaaW.PrintWords Go.Proofs.YtofgjlfgpnmmdaaW.PrintLast
set_option linter.unusedVariables false
theorem within_yes (p s a b : ByteArray) (is : Bool) (e : Int) (hp : p.size ≤ 140737488351232) (hs : s.size ≤ 140737488351232) (ha : a.size ≤ 140737488351232) (hb : b.size ≤ 140737488351232) :
    shuttlelaw6_GlobWithin.j0 1 p s a b is true = some true := by
  simp only [shuttlelaw6_GlobWithin.j0]
  rw [if_pos trivial, G.awake_true]
  rfl
theorem within_no (p s a b : ByteArray) (is : Bool) (L : List G.Stp) (hp : p.size ≤ 252) (hs : s.size ≤ 140737488351232) (ha : a.size ≤ 140737488351232) (hb : b.size ≤ 140737488351232)
    (hL : G.parseL (G.bl p) = some L) (h42 : (G.bl p).getLast? ≠ some 42) (his : is = true → G.Mat L (G.bl s)) :
    shuttlelaw6_GlobWithin.j0 1 p s a b is false = some true := by
  have hsz : (((⟨#[42, 42]⟩ : ByteArray) ++ p) ++ (⟨#[42, 42]⟩ : ByteArray)).size = 2 + p.size + 2 := by simp only [ByteArray.size_append]; rfl
  have hpar : G.parseL (G.bl (((⟨#[42, 42]⟩ : ByteArray) ++ p) ++ (⟨#[42, 42]⟩ : ByteArray))) = some (⟨true, fun _ => true⟩ :: (L ++ [⟨true, fun _ => true⟩])) := by
    rw [G.bl_append, G.bl_append]
    rw [show G.bl ⟨#[42, 42]⟩ = [42, 42] from rfl, List.append_assoc, List.cons_append, List.cons_append, List.nil_append, G.parse_all]
    rw [G.parse_join _ _ L (Nat.le_refl _) hL [42, 42] (fun h => absurd h h42), G.parse_all, G.parse_nil]
    rfl
  have hany : ∀ (f : Int → Bool) (c : Int), (fun _ : Int => true) c = true := fun _ _ => rfl
  have hm : ∀ u1 u2 u3, G.Mat L u2 → G.Mat (⟨true, fun _ => true⟩ :: (L ++ [⟨true, fun _ => true⟩])) (u1 ++ u2 ++ u3) := by
    intro u1 u2 u3 h
    rw [G.Mat_cons_many]
    refine ⟨u1, u2 ++ u3, by rw [List.append_assoc], fun _ _ => rfl, ?_⟩
    rw [G.Mat_append]
    exact ⟨u2, u3, rfl, h, (G.Mat_single_many _ _).2 (fun _ _ => rfl)⟩
  obtain ⟨m1, m2⟩ := G.match_yes (s := (a ++ s) ++ b) (by rw [hsz]; omega) hpar
  obtain ⟨m3, m4⟩ := G.match_yes (s := s) (by rw [hsz]; omega) hpar
  have hsz2 : ((a ++ s) ++ b).size = a.size + s.size + b.size := by simp only [ByteArray.size_append]
  simp only [shuttlelaw6_GlobWithin.j0]
  rw [if_neg (by simp), if_pos (by omega), if_pos (by simp only [ByteArray.size_append, show (⟨#[42, 42]⟩ : ByteArray).size = 2 from rfl]; omega), if_pos (by omega), if_pos (by simp only [ByteArray.size_append]; omega)]
  rw [G.match_f (by rw [hsz]; omega) (by rw [hsz2]; omega), G.match_f (by rw [hsz]; omega) (by omega)]
  simp only [Option.bind_some]
  rw [if_pos m1, if_pos m3, G.awake_true]
  by_cases h : is = true
  · rw [if_pos h]
    have h1 : (G.matchRes (((⟨#[42, 42]⟩ : ByteArray) ++ p) ++ (⟨#[42, 42]⟩ : ByteArray)) ((a ++ s) ++ b)).1 = true := by
      rw [m2, G.bl_append, G.bl_append]
      exact hm _ _ _ (his h)
    have h2 : (G.matchRes (((⟨#[42, 42]⟩ : ByteArray) ++ p) ++ (⟨#[42, 42]⟩ : ByteArray)) s).1 = true := by
      rw [m4]
      have := hm [] (G.bl s) [] (his h)
      simpa using this
    rw [if_pos h1, if_pos h2]
    rfl
  · rw [if_neg h]
    rfl
theorem GlobWithin : shuttlelaw6_GlobWithin.Pure := by
  intro p s a b hp hs ha hb
  refine ⟨1, ?_⟩
  unfold shuttlelaw6_GlobWithin.f
  rw [G.match_f (by omega) (by omega)]
  simp only [Option.bind_some]
  have hy := fun is => within_yes p s a b is 0 hp hs ha hb
  by_cases h0 : (G.matchRes p s).2 = 0
  · rw [if_pos h0]
    by_cases h1 : p.toList = []
    · rw [if_pos h1]
      exact hy _
    · rw [if_neg h1]
      have hlen : 0 < p.size := by
        rcases Nat.eq_zero_or_pos p.size with h | h
        · exfalso
          apply h1
          rw [ByteArray.toList_eq]
          exact List.eq_nil_of_length_eq_zero (by simpa using h)
        · exact h
      rw [if_pos (by omega)]
      have hw : wrap64 ((p.size : Int) - 1) = ((p.size - 1 : Nat) : Int) := by unfold wrap64; omega
      by_cases h2 : bt p 0 = 42
      · rw [if_pos h2]
        exact hy _
      · rw [if_neg h2, hw, if_pos (by omega), if_pos (by omega)]
        by_cases h3 : bt p ((p.size - 1 : Nat) : Int) = 42
        · rw [if_pos h3]
          exact hy _
        · rw [if_neg h3]
          by_cases h4 : (p.size : Int) > 252
          · rw [decide_eq_true h4]
            exact hy _
          · rw [decide_eq_false h4]
            have hc : (G.checkRes p).2 = 0 := by
              unfold G.matchRes at h0
              by_cases h : (G.checkRes p).2 = 0
              · exact h
              · rw [if_neg h] at h0
                exact h0
            obtain ⟨hsz, L, hL⟩ := G.read_no hc
            obtain ⟨m1, m2⟩ := G.match_yes (s := s) hsz hL
            refine within_no p s a b _ L (by omega) hs ha hb hL ?_ (fun h => m2.1 h)
            rw [G.bt_g p (p.size - 1) bt (by funext s i; rfl)] at h3
            rw [List.getLast?_eq_getElem?, G.bl_length, G.bl_at p _ (by omega)]
            intro h
            exact h3 (Option.some.inj h)
  · rw [if_neg h0]
    exact hy _
end Go.Proofs.Ytofgjlfgpnmmdaa.Pure
