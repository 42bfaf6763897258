/- GlobStars: two stars match everything, one star just what has no slash, a question mark one byte that is none: for every text. -/
import Derived.Test.YtofgjlfgpnmmdaaPAx2
import Derived.Test.YtofgjlfgpnmmdaaGs
namespace Go.Proofs.Ytofgjlfgpnmmdaa.Pure
open Go.RowKit Go.Proofs.Ytofgjlfgpnmmdaa.PA Go.Proofs.YtofgjlfgpnmmdaaW.PrintWords Go.Proofs.YtofgjlfgpnmmdaaW.PrintLast
open Go.Proofs.Ytofgjlfgpnmmdaa.G (Mat Mat_nil Mat_single_many Mat_single_one Mat_cons_many match_eq match_f parse_nil parse_all parse_plain parse_quest bl bl_length bl_at bl_take awake_true)
set_option linter.unusedVariables false
theorem bt_g (s : ByteArray) (i : Nat) : bt s (i : Int) = G.bt s i := by unfold bt G.bt; simp
theorem wrap_up {i : Nat} {n : Nat} (h : i < n) (hn : n ≤ 140737488351232) : wrap64 ((i : Int) + 1) = ((i + 1 : Nat) : Int) := by
  unfold wrap64
  omega
def slashes (s : ByteArray) (i : Nat) : Bool := ((bl s).take i).any fun c => c == 47
theorem stars_loop (s : ByteArray) (hn : s.size ≤ 140737488351232) (d : Nat) : ∀ (k i : Nat), s.size - i = d → i ≤ s.size → d < k →
    shuttlelaw6_GlobStars.l0 k s (slashes s i) i = shuttlelaw6_GlobStars.l0 1 s (slashes s s.size) s.size := by
  induction d with
  | zero =>
    intro k i hd hi hk
    obtain ⟨k, rfl⟩ : ∃ m, k = m + 1 := ⟨k - 1, by omega⟩
    obtain rfl : i = s.size := by omega
    simp only [shuttlelaw6_GlobStars.l0]
    rw [if_neg (by omega), if_neg (by omega)]
  | succ d ih =>
    intro k i hd hi hk
    obtain ⟨k, rfl⟩ : ∃ m, k = m + 1 := ⟨k - 1, by omega⟩
    rw [← ih k (i + 1) (by omega) (by omega) (by omega)]
    conv => lhs; unfold shuttlelaw6_GlobStars.l0
    rw [if_pos (by omega), wrap_up (by omega : i < s.size) hn, bt_g]
    have e : slashes s (i + 1) = (slashes s i || G.bt s i == 47) := by
      unfold slashes
      rw [bl_take s i (by omega), List.any_append]
      simp
    rw [e]
    by_cases h : slashes s i = true
    · rw [if_pos h, h]
      rfl
    · rw [if_neg h, if_pos (by omega), Bool.eq_false_iff.2 h]
      rfl
theorem GlobStars : shuttlelaw6_GlobStars.Pure := by
  intro s hn
  refine ⟨s.size + 1, ?_⟩
  unfold shuttlelaw6_GlobStars.f
  have h := stars_loop s hn s.size (s.size + 1) 0 rfl (Nat.zero_le _) (by omega)
  have h0 : slashes s 0 = false := rfl
  rw [h0] at h
  rw [show (0 : Int) = ((0 : Nat) : Int) from rfl, h]
  have hb : slashes s s.size = (bl s).any fun c => c == 47 := by
    unfold slashes
    rw [List.take_of_length_le (by rw [bl_length]; exact Nat.le_refl _)]
  have hs : s.size ≤ 9223372036854775807 := by omega
  generalize hbb : slashes s s.size = b at *
  have m1 : G.matchRes ⟨#[42, 42]⟩ s = (true, 0) := match_eq (p := ⟨#[42, 42]⟩) (s := s) (by decide) (show G.parseL [42, 42] = some [⟨true, fun _ => true⟩] by rw [parse_all, parse_nil]; rfl) true
    ⟨fun _ => (Mat_single_many _ _).2 (fun _ _ => rfl), fun _ => rfl⟩
  have m2 : G.matchRes ⟨#[42]⟩ s = (!b, 0) := match_eq (p := ⟨#[42]⟩) (s := s) (by decide) (show G.parseL [42] = some [⟨true, fun c => c != 47⟩] by rw [parse_plain [] (by decide), parse_nil]; rfl) (!b) (by
    rw [Mat_single_many, hb]
    simp)
  have m4 : G.matchRes ⟨#[42, 42, 42]⟩ s = (true, 0) := match_eq (p := ⟨#[42, 42, 42]⟩) (s := s) (by decide) (show G.parseL [42, 42, 42] = some [⟨true, fun _ => true⟩, ⟨true, fun c => c != 47⟩] by rw [parse_all, parse_plain [] (by decide), parse_nil]; rfl) true
    ⟨fun _ => (Mat_cons_many _ _ _).2 ⟨bl s, [], by simp, fun _ _ => rfl, (Mat_single_many _ _).2 (fun _ h => by cases h)⟩, fun _ => rfl⟩
  have hlen := bl_length s
  have m5 : G.matchRes ⟨#[]⟩ s = (s.toList == ([] : List UInt8), 0) := match_eq (p := ⟨#[]⟩) (s := s) (by decide) (show G.parseL [] = some [] from parse_nil) _ (by
    rw [Mat_nil]
    have : s.toList = s.data.toList := ByteArray.toList_eq s
    rw [this]
    unfold bl
    simp)
  have m3 : G.matchRes ⟨#[63]⟩ s = (if (s.size : Int) = 1 then !b else false, 0) := match_eq (p := ⟨#[63]⟩) (s := s) (by decide) (show G.parseL [63] = some [⟨false, fun c => c != 47⟩] by rw [parse_quest, parse_nil]; rfl) _ (by
    rw [Mat_single_one, hb]
    by_cases h1 : (s.size : Int) = 1
    · rw [if_pos h1]
      obtain ⟨c, hc⟩ : ∃ c, bl s = [c] := List.length_eq_one_iff.1 (by omega)
      rw [hc]
      simp
    · rw [if_neg h1]
      constructor
      · intro h; cases h
      · rintro ⟨c, hc, _⟩
        rw [hc] at hlen
        simp at hlen
        omega)
  simp only [shuttlelaw6_GlobStars.l0]
  rw [if_neg (by omega), match_f (by decide) hs, match_f (by decide) hs, match_f (by decide) hs, match_f (by decide) hs, match_f (by decide) hs, m1, m2, m3, m4, m5]
  simp only [Option.bind_some, awake_true, if_true, beq_self_eq_true]
  by_cases h1 : (s.size : Int) = 1
  · simp [h1]
  · simp [h1]
end Go.Proofs.Ytofgjlfgpnmmdaa.Pure
