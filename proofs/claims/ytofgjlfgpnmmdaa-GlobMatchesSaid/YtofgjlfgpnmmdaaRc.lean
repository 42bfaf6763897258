/- The reference's byte in brackets. -/
import Derived.Test.YtofgjlfgpnmmdaaRb
namespace Go.Proofs.Ytofgjlfgpnmmdaa.G
open Go.RowKit
attribute [local simp, local go_sem] alloc_drewN setCell_drewN setRow_drewN
set_option linter.unusedVariables false
set_option linter.unusedSimpArgs false
/-- A backslash that nothing follows. -/
def escBad (p : ByteArray) (x : Nat) : Bool := bt p x == 92 && decide (p.size ≤ x + 1)
def byteOk (p : ByteArray) (x : Nat) : Bool := goes p x && !escBad p x
theorem byteOk_go {p : ByteArray} {x : Nat} (h : byteOk p x = true) : goes p x = true ∧ escBad p x = false := by
  simpa [byteOk] using h
theorem rbytes_ok (p : ByteArray) (x : Nat) (w : World) (hp : p.size ≤ 256) (h : byteOk p x = true) :
    Calls Try.prog 25 #[.string p, .int .i64 (x : Nat)] w fun e w' => e = .returned (.tuple #[.int .u8 (byteV p x), .int .i64 (byteA p x : Nat), .bool true]) ∧ ∃ n, w' = w.drewN n := by
  obtain ⟨h1, h2⟩ := byteOk_go h
  clear h
  have hx := goes_lt h1
  have hb := bt_at p x hx
  have hp' : p.size ≤ 9223372036854775807 := by omega
  have e93 : (bt p x == 93) = false := by
    unfold goes at h1
    simp at h1
    simpa using h1.2
  have hxx : (x : Int) < (p.size : Int) := by omega
  have hxn : ¬ ((p.size : Int) ≤ (x : Int)) := by omega
  by_cases e : bt p x = 92
  · have e92 : (bt p x == 92) = true := by simp [e]
    have hlt : x + 1 < p.size := by
      unfold escBad at h2
      simp [e] at h2
      exact h2
    have hb1 := bt_at p (x + 1) hlt
    have E1 := Lib.hid (show byteV p x = bt p (x + 1) from by unfold byteV; rw [if_pos e, if_neg (by omega)])
    have E2 := Lib.hid (show byteA p x = x + 2 from by unfold byteA; rw [if_pos e, if_neg (by omega)])
    have hxn1 : ¬ ((p.size : Int) ≤ (x : Int) + 1) := by omega
    have hdn1 : decide ((p.size : Int) ≤ (x : Int) + 1) = false := by simp; omega
    have hdn : decide ((p.size : Int) ≤ (x : Int)) = false := by simp; omega
    clear h1 h2 e
    go_enter Try.func25, Try.ntmps25
    go_wp2
    go_ret3
    exact ⟨by rw [E1.out, E2.out]; rfl, 0, rfl⟩
  · have e92 : (bt p x == 92) = false := by simp [e]
    have E1 := Lib.hid (show byteV p x = bt p x from by unfold byteV; rw [if_neg e])
    have E2 := Lib.hid (show byteA p x = x + 1 from by unfold byteA; rw [if_neg e])
    have hdn : decide ((p.size : Int) ≤ (x : Int)) = false := by simp; omega
    clear h1 h2 e
    go_enter Try.func25, Try.ntmps25
    go_wp2
    go_ret3
    exact ⟨by rw [E1.out, E2.out]; rfl, 0, rfl⟩
theorem rbytes_no (p : ByteArray) (x : Nat) (w : World) (hp : p.size ≤ 256) (hx : x ≤ p.size) (h : byteOk p x = false) :
    Calls Try.prog 25 #[.string p, .int .i64 (x : Nat)] w fun e w' => e = .returned (.tuple #[.int .u8 0, .int .i64 (x : Nat), .bool false]) ∧ ∃ n, w' = w.drewN n := by
  have hp' : p.size ≤ 9223372036854775807 := by omega
  by_cases hlt : x < p.size
  · have hb := bt_at p x hlt
    have hdn : decide ((p.size : Int) ≤ (x : Int)) = false := by simp; omega
    have hxx : (x : Int) < (p.size : Int) := by omega
    have hxn : ¬ ((p.size : Int) ≤ (x : Int)) := by omega
    by_cases e3 : bt p x = 93
    · have e93 : (bt p x == 93) = true := by simp [e3]
      clear h e3
      go_enter Try.func25, Try.ntmps25
      go_wp2
      go_ret3
      exact ⟨rfl, 0, rfl⟩
    · have e93 : (bt p x == 93) = false := by simp [e3]
      obtain ⟨e, hle⟩ : bt p x = 92 ∧ p.size ≤ x + 1 := by
        unfold byteOk goes escBad at h
        simp [hlt, e3] at h
        exact h
      have e92 : (bt p x == 92) = true := by simp [e]
      have hx1 : ((p.size : Int) ≤ (x : Int) + 1) := by omega
      have hd1 : decide ((p.size : Int) ≤ (x : Int) + 1) = true := by simp; omega
      clear h e3 e hle
      go_enter Try.func25, Try.ntmps25
      go_wp2
      go_ret3
      exact ⟨rfl, 0, rfl⟩
  · have hdn : decide ((p.size : Int) ≤ (x : Int)) = true := by simp; omega
    have hxn : ((p.size : Int) ≤ (x : Int)) := by omega
    have hnx : ¬ ((x : Int) < (p.size : Int)) := by omega
    clear h
    go_enter Try.func25, Try.ntmps25
    go_wp2
    go_ret3
    exact ⟨rfl, 0, rfl⟩
end Go.Proofs.Ytofgjlfgpnmmdaa.G
