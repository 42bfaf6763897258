/- GlobLong: patterns are taken up to their bound, and refused past it; long texts are matched: for every number and text. -/
import Derived.Test.YtofgjlfgpnmmdaaPAx3
import Derived.Test.YtofgjlfgpnmmdaaGu
namespace Go.Proofs.Ytofgjlfgpnmmdaa.Pure
open Go.RowKit Go.Proofs.Ytofgjlfgpnmmdaa.PA Go.Proofs.YtofgjlfgpnmmdaaW.PrintWords Go.Proofs.YtofgjlfgpnmmdaaW.PrintLast
set_option linter.unusedVariables false
theorem low_range (a : Int) : 0 ≤ Go.bits .and .i64 a 9223372036854775807 ∧ Go.bits .and .i64 a 9223372036854775807 ≤ 9223372036854775807 := by
  unfold Go.bits
  simp only
  have h1 : (BitVec.ofInt 64 a &&& BitVec.ofInt 64 9223372036854775807).toNat ≤ 9223372036854775807 := by
    rw [BitVec.toNat_and]
    exact Nat.le_trans Nat.and_le_right (by decide)
  have h2 : IntKind.i64.bits = 64 := rfl
  rw [IntKind.wrap_i64]
  show 0 ≤ _ ∧ _
  have h3 : (((BitVec.ofInt IntKind.i64.bits a &&& BitVec.ofInt IntKind.i64.bits 9223372036854775807).toNat : Nat) : Int) ≤ 9223372036854775807 := by
    exact Int.ofNat_le.2 h1
  omega
theorem stars_read : ∀ m n, n ≤ m → ∃ L, G.parseL (List.replicate n 42) = some L ∧ G.Mat L [] ∧ (2 ≤ n → ∀ u, G.Mat L u) := by
  intro m
  induction m with
  | zero =>
    intro n h
    obtain rfl : n = 0 := by omega
    exact ⟨[], G.parse_nil, rfl, fun h => by omega⟩
  | succ m ih =>
    intro n h
    match n, h with
    | 0, _ => exact ⟨[], G.parse_nil, rfl, fun h => by omega⟩
    | 1, _ =>
      refine ⟨[⟨true, fun c => c != 47⟩], ?_, (G.Mat_single_many _ _).2 (fun _ h => by cases h), fun h => by omega⟩
      show G.parseL [42] = _
      rw [G.parse_plain [] (by decide), G.parse_nil]
      rfl
    | n + 2, h =>
      obtain ⟨L, h1, h2, _⟩ := ih n (by omega)
      refine ⟨⟨true, fun _ => true⟩ :: L, ?_, ?_, ?_⟩
      · show G.parseL (42 :: 42 :: List.replicate n 42) = _
        rw [G.parse_all, h1]
        rfl
      · exact (G.Mat_cons_many _ _ _).2 ⟨[], [], rfl, (fun _ h => by cases h), h2⟩
      · intro _ u
        exact (G.Mat_cons_many _ _ _).2 ⟨u, [], by simp, fun _ _ => rfl, h2⟩
theorem long_loop (s : ByteArray) (x5 : Int) (n : Nat) (hn : n ≤ 1000) (d : Nat) : ∀ (k i : Nat), n - i = d → i ≤ n → d < k →
    shuttlelaw6_GlobLong.l0 k s x5 (List.replicate i 42 ++ List.replicate (n - i) 0) i = shuttlelaw6_GlobLong.l0 1 s x5 (List.replicate n 42) n := by
  induction d with
  | zero =>
    intro k i hd hi hk
    obtain ⟨k, rfl⟩ : ∃ m, k = m + 1 := ⟨k - 1, by omega⟩
    obtain rfl : i = n := by omega
    rw [Nat.sub_self, List.replicate_zero, List.append_nil]
    have hc : ¬ ((i : Int) < ((List.replicate i (42 : Int)).length : Int)) := by simp
    simp only [shuttlelaw6_GlobLong.l0, if_neg hc]
  | succ d ih =>
    intro k i hd hi hk
    obtain ⟨k, rfl⟩ : ∃ m, k = m + 1 := ⟨k - 1, by omega⟩
    rw [← ih k (i + 1) (by omega) (by omega) (by omega)]
    conv => lhs; unfold shuttlelaw6_GlobLong.l0
    have hl : ((List.replicate i (42 : Int)) ++ List.replicate (n - i) 0).length = n := by simp; omega
    rw [if_pos (by rw [hl]; omega), if_pos (by omega), G.wrap_up (n := n) (by omega) (by omega)]
    congr 1
    have e : ((i : Int)).toNat = i := by omega
    rw [e, show n - i = (n - (i + 1)) + 1 from by omega, List.replicate_succ, List.set_append_right _ _ (by simp), List.length_replicate, Nat.sub_self, List.set_cons_zero, List.replicate_succ', List.append_assoc]
    rfl
theorem GlobLong : shuttlelaw6_GlobLong.Pure := by
  intro a s ha hs
  obtain ⟨h1, h2⟩ := low_range a
  generalize hv : Go.bits .and .i64 a 9223372036854775807 = v at h1 h2
  have hr : 0 ≤ Int.tmod v 3 ∧ Int.tmod v 3 ≤ 2 := by
    rw [Int.tmod_eq_emod_of_nonneg h1]
    omega
  generalize hr' : Int.tmod v 3 = r at hr
  obtain ⟨m, rfl⟩ : ∃ m : Nat, r = m := ⟨r.toNat, by omega⟩
  have hw : wrap64 (255 + (m : Int)) = ((255 + m : Nat) : Int) := by unfold wrap64; omega
  refine ⟨300, ?_⟩
  unfold shuttlelaw6_GlobLong.f shuttlelaw0_Low.f
  simp only [Option.bind_some]
  rw [hv, hr', hw, if_pos (by omega), if_pos (by omega)]
  have e : (((255 + m : Nat) : Int)).toNat = 255 + m := by omega
  rw [e]
  have hl := long_loop s m (255 + m) (by omega) (255 + m) 300 0 rfl (Nat.zero_le _) (by omega)
  rw [List.replicate_zero, List.nil_append, Nat.sub_zero] at hl
  rw [show (0 : Int) = ((0 : Nat) : Int) from rfl] at *
  rw [hl]
  have hc : ¬ (((255 + m : Nat) : Int) < ((List.replicate (255 + m) (42 : Int)).length : Int)) := by simp
  simp only [shuttlelaw6_GlobLong.l0]
  rw [if_neg hc]
  have hsz : (strOfNums (List.replicate (255 + m) 42)).size = 255 + m := by rw [G.size_strOf, List.length_replicate]
  have hbl : G.bl (strOfNums (List.replicate (255 + m) 42)) = List.replicate (255 + m) 42 := G.bl_strOf _ (fun c hc => by rw [List.eq_of_mem_replicate hc]; omega)
  rw [G.check_f (by omega), G.match_f (by omega) (by omega), G.awake_true]
  simp only [Option.bind_some]
  by_cases h2 : (m : Int) = 2
  · rw [if_pos h2]
    have hck : G.checkRes (strOfNums (List.replicate (255 + m) 42)) = (0, 61) := by
      unfold G.checkRes
      rw [if_pos (by omega)]
    have hmt : G.matchRes (strOfNums (List.replicate (255 + m) 42)) s = (false, 61) := by
      unfold G.matchRes
      rw [hck, if_neg (by decide)]
    rw [hck, hmt]
    rfl
  · rw [if_neg h2]
    obtain ⟨L, p1, _, p3⟩ := stars_read (255 + m) (255 + m) (Nat.le_refl _)
    rw [← hbl] at p1
    obtain ⟨q1, _⟩ := G.read_yes (by omega) p1
    obtain ⟨m1, m2⟩ := G.match_yes (s := s) (by omega) p1
    rw [q1, if_pos rfl, if_pos m1, if_pos (m2.2 (p3 (by omega) _))]
end Go.Proofs.Ytofgjlfgpnmmdaa.Pure
