/- Names of variables: the walks of scalar's and expr's tests. -/
import Derived.Test.YtinhlaiogkmkfaaQGc
namespace Go.Proofs.Ytinhlaiogkmkfaa.G
open Go.RowKit
attribute [local simp, local go_sem] alloc_drewN setCell_drewN
set_option linter.unusedVariables false
set_option linter.unusedSimpArgs false
def letterB (c : Int) : Bool := (decide (97 ≤ c) && decide (c ≤ 122)) || (decide (65 ≤ c) && decide (c ≤ 90)) || (decide (48 ≤ c) && decide (c ≤ 57)) || c == 95
set_option maxHeartbeats 1000000 in
theorem letter0 (c : Int) (h0 : 0 ≤ c) (h9 : c ≤ 255) (w : World) : Calls Try.prog 101 #[.int .u8 c] w fun e w' => e = .returned (.bool (letterB c)) ∧ w = w' := by
  have hc : (0 ≤ c ∧ c ≤ 47) ∨ (48 ≤ c ∧ c ≤ 57) ∨ (58 ≤ c ∧ c ≤ 64) ∨ (65 ≤ c ∧ c ≤ 90) ∨ (91 ≤ c ∧ c ≤ 94) ∨ (95 ≤ c ∧ c ≤ 95) ∨ (96 ≤ c ∧ c ≤ 96) ∨ (97 ≤ c ∧ c ≤ 122) ∨ (123 ≤ c ∧ c ≤ 255) := by omega
  rcases hc with ⟨h1, h2⟩ | ⟨h1, h2⟩ | ⟨h1, h2⟩ | ⟨h1, h2⟩ | ⟨h1, h2⟩ | ⟨h1, h2⟩ | ⟨h1, h2⟩ | ⟨h1, h2⟩ | ⟨h1, h2⟩
  · have E := Lib.hid (show letterB c = false from by unfold letterB; simp; omega)
    have : decide (97 ≤ c) = false := by simp; omega
    have : ¬ (97 ≤ c) := by omega
    have : decide (c ≤ 122) = true := by simp; omega
    have : c ≤ 122 := by omega
    have : decide (65 ≤ c) = false := by simp; omega
    have : ¬ (65 ≤ c) := by omega
    have : decide (c ≤ 90) = true := by simp; omega
    have : c ≤ 90 := by omega
    have : decide (48 ≤ c) = false := by simp; omega
    have : ¬ (48 ≤ c) := by omega
    have : decide (c ≤ 57) = true := by simp; omega
    have : c ≤ 57 := by omega
    have : (c == 95) = false := by simp; omega
    go_enter Try.func101, Try.ntmps101
    go_wp2
    go_ret
    exact ⟨by rw [E.out]; rfl, rfl⟩
  · have E := Lib.hid (show letterB c = true from by unfold letterB; simp; omega)
    have : decide (97 ≤ c) = false := by simp; omega
    have : ¬ (97 ≤ c) := by omega
    have : decide (c ≤ 122) = true := by simp; omega
    have : c ≤ 122 := by omega
    have : decide (65 ≤ c) = false := by simp; omega
    have : ¬ (65 ≤ c) := by omega
    have : decide (c ≤ 90) = true := by simp; omega
    have : c ≤ 90 := by omega
    have : decide (48 ≤ c) = true := by simp; omega
    have : 48 ≤ c := by omega
    have : decide (c ≤ 57) = true := by simp; omega
    have : c ≤ 57 := by omega
    have : (c == 95) = false := by simp; omega
    go_enter Try.func101, Try.ntmps101
    go_wp2
    go_ret
    exact ⟨by rw [E.out]; rfl, rfl⟩
  · have E := Lib.hid (show letterB c = false from by unfold letterB; simp; omega)
    have : decide (97 ≤ c) = false := by simp; omega
    have : ¬ (97 ≤ c) := by omega
    have : decide (c ≤ 122) = true := by simp; omega
    have : c ≤ 122 := by omega
    have : decide (65 ≤ c) = false := by simp; omega
    have : ¬ (65 ≤ c) := by omega
    have : decide (c ≤ 90) = true := by simp; omega
    have : c ≤ 90 := by omega
    have : decide (48 ≤ c) = true := by simp; omega
    have : 48 ≤ c := by omega
    have : decide (c ≤ 57) = false := by simp; omega
    have : ¬ (c ≤ 57) := by omega
    have : (c == 95) = false := by simp; omega
    go_enter Try.func101, Try.ntmps101
    go_wp2
    go_ret
    exact ⟨by rw [E.out]; rfl, rfl⟩
  · have E := Lib.hid (show letterB c = true from by unfold letterB; simp; omega)
    have : decide (97 ≤ c) = false := by simp; omega
    have : ¬ (97 ≤ c) := by omega
    have : decide (c ≤ 122) = true := by simp; omega
    have : c ≤ 122 := by omega
    have : decide (65 ≤ c) = true := by simp; omega
    have : 65 ≤ c := by omega
    have : decide (c ≤ 90) = true := by simp; omega
    have : c ≤ 90 := by omega
    have : decide (48 ≤ c) = true := by simp; omega
    have : 48 ≤ c := by omega
    have : decide (c ≤ 57) = false := by simp; omega
    have : ¬ (c ≤ 57) := by omega
    have : (c == 95) = false := by simp; omega
    go_enter Try.func101, Try.ntmps101
    go_wp2
    go_ret
    exact ⟨by rw [E.out]; rfl, rfl⟩
  · have E := Lib.hid (show letterB c = false from by unfold letterB; simp; omega)
    have : decide (97 ≤ c) = false := by simp; omega
    have : ¬ (97 ≤ c) := by omega
    have : decide (c ≤ 122) = true := by simp; omega
    have : c ≤ 122 := by omega
    have : decide (65 ≤ c) = true := by simp; omega
    have : 65 ≤ c := by omega
    have : decide (c ≤ 90) = false := by simp; omega
    have : ¬ (c ≤ 90) := by omega
    have : decide (48 ≤ c) = true := by simp; omega
    have : 48 ≤ c := by omega
    have : decide (c ≤ 57) = false := by simp; omega
    have : ¬ (c ≤ 57) := by omega
    have : (c == 95) = false := by simp; omega
    go_enter Try.func101, Try.ntmps101
    go_wp2
    go_ret
    exact ⟨by rw [E.out]; rfl, rfl⟩
  · have E := Lib.hid (show letterB c = true from by unfold letterB; simp; omega)
    have : decide (97 ≤ c) = false := by simp; omega
    have : ¬ (97 ≤ c) := by omega
    have : decide (c ≤ 122) = true := by simp; omega
    have : c ≤ 122 := by omega
    have : decide (65 ≤ c) = true := by simp; omega
    have : 65 ≤ c := by omega
    have : decide (c ≤ 90) = false := by simp; omega
    have : ¬ (c ≤ 90) := by omega
    have : decide (48 ≤ c) = true := by simp; omega
    have : 48 ≤ c := by omega
    have : decide (c ≤ 57) = false := by simp; omega
    have : ¬ (c ≤ 57) := by omega
    have : (c == 95) = true := by simp; omega
    go_enter Try.func101, Try.ntmps101
    go_wp2
    go_ret
    exact ⟨by rw [E.out]; rfl, rfl⟩
  · have E := Lib.hid (show letterB c = false from by unfold letterB; simp; omega)
    have : decide (97 ≤ c) = false := by simp; omega
    have : ¬ (97 ≤ c) := by omega
    have : decide (c ≤ 122) = true := by simp; omega
    have : c ≤ 122 := by omega
    have : decide (65 ≤ c) = true := by simp; omega
    have : 65 ≤ c := by omega
    have : decide (c ≤ 90) = false := by simp; omega
    have : ¬ (c ≤ 90) := by omega
    have : decide (48 ≤ c) = true := by simp; omega
    have : 48 ≤ c := by omega
    have : decide (c ≤ 57) = false := by simp; omega
    have : ¬ (c ≤ 57) := by omega
    have : (c == 95) = false := by simp; omega
    go_enter Try.func101, Try.ntmps101
    go_wp2
    go_ret
    exact ⟨by rw [E.out]; rfl, rfl⟩
  · have E := Lib.hid (show letterB c = true from by unfold letterB; simp; omega)
    have : decide (97 ≤ c) = true := by simp; omega
    have : 97 ≤ c := by omega
    have : decide (c ≤ 122) = true := by simp; omega
    have : c ≤ 122 := by omega
    have : decide (65 ≤ c) = true := by simp; omega
    have : 65 ≤ c := by omega
    have : decide (c ≤ 90) = false := by simp; omega
    have : ¬ (c ≤ 90) := by omega
    have : decide (48 ≤ c) = true := by simp; omega
    have : 48 ≤ c := by omega
    have : decide (c ≤ 57) = false := by simp; omega
    have : ¬ (c ≤ 57) := by omega
    have : (c == 95) = false := by simp; omega
    go_enter Try.func101, Try.ntmps101
    go_wp2
    go_ret
    exact ⟨by rw [E.out]; rfl, rfl⟩
  · have E := Lib.hid (show letterB c = false from by unfold letterB; simp; omega)
    have : decide (97 ≤ c) = true := by simp; omega
    have : 97 ≤ c := by omega
    have : decide (c ≤ 122) = false := by simp; omega
    have : ¬ (c ≤ 122) := by omega
    have : decide (65 ≤ c) = true := by simp; omega
    have : 65 ≤ c := by omega
    have : decide (c ≤ 90) = false := by simp; omega
    have : ¬ (c ≤ 90) := by omega
    have : decide (48 ≤ c) = true := by simp; omega
    have : 48 ≤ c := by omega
    have : decide (c ≤ 57) = false := by simp; omega
    have : ¬ (c ≤ 57) := by omega
    have : (c == 95) = false := by simp; omega
    go_enter Try.func101, Try.ntmps101
    go_wp2
    go_ret
    exact ⟨by rw [E.out]; rfl, rfl⟩
def letters (s : ByteArray) (k : Nat) : Bool := (List.range k).all fun i => letterB (bt s i)
theorem letters_zero (s : ByteArray) : letters s 0 = true := rfl
theorem letters_succ (s : ByteArray) (k : Nat) : letters s (k + 1) = (letters s k && letterB (bt s k)) := by simp [letters, List.range_succ]
def madeOk (s : ByteArray) : Bool := decide (1 ≤ s.size) && decide (s.size ≤ 64) && letters s s.size
theorem letters_no {s : ByteArray} {k : Nat} (hk : k < s.size) (h : letterB (bt s k) = false) : letters s s.size = false := by
  unfold letters
  rw [List.all_eq_false]
  exact ⟨k, List.mem_range.2 hk, by simp [h]⟩
theorem size_ne (s : ByteArray) (h : 0 < s.size) : s.toList.isEmpty = false := by
  have := ByteArray.toList_eq s
  cases hs : s.toList with
  | nil =>
    rw [hs] at this
    have h2 : s.data.toList.length = 0 := by rw [← this]; rfl
    rw [Array.length_toList] at h2
    have h3 : s.size = s.data.size := rfl
    omega
  | cons a l => rfl
theorem madeOk_no {s : ByteArray} (h : s.size = 0 ∨ 64 < s.size ∨ letters s s.size = false) : madeOk s = false := by
  unfold madeOk
  rcases h with h | h | h
  · simp [h]
  · have : ¬ s.size ≤ 64 := by omega
    simp [this]
  · simp [h]
set_option maxHeartbeats 1000000 in
theorem made0 (s : ByteArray) (w : World) (hs : s.size ≤ 9223372036854775807) : Calls Try.prog 100 #[.string s, .func (.func 101) #[] #[]] w fun e w' => e = .returned (.bool (madeOk s)) ∧ w = w' := by
  have hs2 : s.size ≤ 9223372036854775807 := by omega
  by_cases h0 : s.size = 0
  · have E := Lib.hid (madeOk_no (.inl h0))
    obtain rfl : s = ByteArray.empty := by
      apply ByteArray.ext
      exact Array.eq_empty_of_size_eq_zero (by simpa using h0)
    clear h0 hs hs2
    go_enter Try.func100, Try.ntmps100
    go_wp2
    go_ret
    exact ⟨by rw [E.out]; rfl, rfl⟩
  · have he := size_ne s (by omega)
    by_cases h1 : 64 < s.size
    · have E := Lib.hid (madeOk_no (.inr (.inl h1)))
      have h1' : (64 : Int) < (s.size : Int) := by omega
      have hd : decide ((64 : Int) < (s.size : Int)) = true := by simp; omega
      go_enter Try.func100, Try.ntmps100
      go_wp2
      go_ret
      exact ⟨by rw [E.out]; rfl, rfl⟩
    · have h1' : ¬ (64 : Int) < (s.size : Int) := by omega
      have hd : decide ((64 : Int) < (s.size : Int)) = false := by simp; omega
      go_enter Try.func100, Try.ntmps100
      go_wp2_with fail
      go_loopg [5] s.size (fun g v5 wr => ∃ k : Nat, g = s.size - k ∧ k ≤ s.size ∧ v5 = .int .i64 (k : Int) ∧ w = wr ∧ letters s k = true)
      case atStart => exact ⟨0, rfl, Nat.zero_le _, rfl, rfl, letters_zero s⟩
      case round =>
        obtain ⟨k, hg, hk, rfl, rfl, hl⟩ := hrel
        have HG := Lib.hid hg
        have HL := Lib.hid hl
        clear hg hl
        by_cases hlt : k < s.size
        · have hbt := bt_at s k hlt
          have hr := bt_range s k
          obtain ⟨b, hb⟩ : ∃ b, letterB (bt s k) = b := ⟨_, rfl⟩
          have hlet := letter0 (bt s k) hr.1 hr.2 w
          rw [hb] at hlet
          have HLet := Lib.hid hlet
          clear hlet
          cases b with
          | false =>
            have E := Lib.hid (madeOk_no (.inr (.inr (letters_no hlt hb))))
            clear hb
            go_wp2_with (go_at_call 101; refine HLet.out.mono ?_; rintro e w1 ⟨rfl, rfl⟩)
            go_ret
            exact ⟨by rw [E.out]; rfl, rfl⟩
          | true =>
            have E := Lib.hid (show letters s (k + 1) = true from by rw [letters_succ, HL.out, hb]; rfl)
            clear hb
            go_wp2_with (go_at_call 101; refine HLet.out.mono ?_; rintro e w1 ⟨rfl, rfl⟩)
            go_roundg (s.size - (k + 1))
            case measure => have := HG.out; omega
            case rel => exact ⟨k + 1, rfl, by omega, by go_num, rfl, E.out⟩
        · have E := Lib.hid (show madeOk s = true from by
            unfold madeOk
            have hkk : k = s.size := by omega
            rw [← hkk, HL.out]
            simp
            omega)
          go_wp2_with fail
          go_ret
          exact ⟨by rw [E.out]; rfl, rfl⟩
def varNameB (s : ByteArray) : Bool := madeOk s && (decide (bt s 0 < 48) || decide (57 < bt s 0))
theorem madeOk_size {s : ByteArray} (h : madeOk s = true) : 1 ≤ s.size ∧ s.size ≤ 64 := by
  unfold madeOk at h
  simp at h
  omega
set_option maxHeartbeats 1000000 in
theorem varName0 (s : ByteArray) (w : World) (hs : s.size ≤ 9223372036854775807) : Calls Try.prog 82 #[.string s] w fun e w' => e = .returned (.bool (varNameB s)) ∧ w = w' := by
  have hs2 : s.size ≤ 9223372036854775807 := by omega
  have hm := made0 s w hs
  cases hb : madeOk s with
  | false =>
    rw [hb] at hm
    have HM := Lib.hid hm
    have E := Lib.hid (show varNameB s = false from by unfold varNameB; rw [hb]; rfl)
    clear hm hb
    go_enter Try.func82, Try.ntmps82
    go_wp2_with (go_at_call 100; refine HM.out.mono ?_; rintro e w1 ⟨rfl, rfl⟩)
    go_ret
    exact ⟨by rw [E.out]; rfl, rfl⟩
  | true =>
    have hsz := madeOk_size hb
    have hbt := bt_at s 0 (by omega)
    have hr := bt_range s 0
    have hpos : 0 < s.size := by omega
    rw [hb] at hm
    have HM := Lib.hid hm
    have E := Lib.hid (show varNameB s = (decide (bt s 0 < 48) || decide (57 < bt s 0)) from by unfold varNameB; rw [hb]; rfl)
    clear hm hb
    generalize bt s 0 = c at *
    by_cases h1 : c < 48
    · have d1 : decide (c < 48) = true := by simp; omega
      have E2 := Lib.hid (show varNameB s = true from by rw [E.out, d1]; rfl)
      go_enter Try.func82, Try.ntmps82
      go_wp2_with (go_at_call 100; refine HM.out.mono ?_; rintro e w1 ⟨rfl, rfl⟩)
      go_ret
      exact ⟨by rw [E2.out]; rfl, rfl⟩
    · have d1 : decide (c < 48) = false := by simp; omega
      have E2 := Lib.hid (show varNameB s = decide (57 < c) from by rw [E.out, d1]; rfl)
      go_enter Try.func82, Try.ntmps82
      go_wp2_with (go_at_call 100; refine HM.out.mono ?_; rintro e w1 ⟨rfl, rfl⟩)
      go_ret
      exact ⟨by rw [E2.out]; rfl, rfl⟩
/-- The words that are no variables. -/
def reserved (s : ByteArray) : Bool := s.toList == [111, 114] || s.toList == [97, 110, 100] || s.toList == [110, 111, 116] || s.toList == [116, 114, 117, 101] || s.toList == [102, 97, 108, 115, 101] || s.toList == [100, 101, 102, 105, 110, 101, 100]
def variableB (s : ByteArray) : Bool := !reserved s && varNameB s
set_option maxHeartbeats 1000000 in
theorem variable0 (s : ByteArray) (w : World) (hs : s.size ≤ 9223372036854775807) : Calls Try.prog 64 #[.string s] w fun e w' => e = .returned (.bool (variableB s)) ∧ w = w' := by
  have HM := Lib.hid (varName0 s w hs)
  have HR : Hid (reserved s = (s.toList == [111, 114] || s.toList == [97, 110, 100] || s.toList == [110, 111, 116] || s.toList == [116, 114, 117, 101] || s.toList == [102, 97, 108, 115, 101] || s.toList == [100, 101, 102, 105, 110, 101, 100])) := Lib.hid rfl
  have HV := Lib.hid (show variableB s = (!reserved s && varNameB s) from rfl)
  go_enter Try.func64, Try.ntmps64
  go_wp2_with (go_at_call 82; refine HM.out.mono ?_; rintro e w1 ⟨rfl, rfl⟩)
  all_goals
    go_ret
    refine ⟨?_, rfl⟩
    rw [HV.out, HR.out]
    simp_all
end Go.Proofs.Ytinhlaiogkmkfaa.G
