/- read and Check. -/
import Derived.Test.YtinhlaiogkmkfaaQGg
namespace Go.Proofs.Ytinhlaiogkmkfaa.G
open Go.RowKit
attribute [local simp, local go_sem] alloc_drewN setCell_drewN
set_option linter.unusedVariables false
set_option linter.unusedSimpArgs false
set_option maxRecDepth 100000
def gSteps (p : ByteArray) : Int × List Stp := stepsGo p 0 (-1) []
def ReadPost (p : ByteArray) (w : World) (e : Ending) (w' : World) : Prop :=
  But No w w' ∧ ((256 < p.size ∧ e = .returned (.tuple #[.slice none 0 0, .int .i64 0, .int .i64 61])) ∨
    (p.size ≤ 256 ∧ 0 ≤ (gSteps p).1 ∧ e = .returned (.tuple #[.slice none 0 0, .int .i64 (gSteps p).1, .int .i64 60])) ∨
    (p.size ≤ 256 ∧ (gSteps p).1 < 0 ∧ ∃ v l, e = .returned (.tuple #[v, .int .i64 0, .int .i64 0]) ∧ IsSteps w' w.heap.size v l ∧ l.map Stq.s = (gSteps p).2 ∧ l.length ≤ p.size + 1))
set_option maxHeartbeats 4000000 in
theorem read0 (p : ByteArray) (w : World) (hp : p.size ≤ 9223372036854775807) :
    Calls Try.prog 83 #[.string p] w (ReadPost p w) := by
  have hp2 : p.size ≤ 9223372036854775807 := by omega
  by_cases h1 : 256 < p.size
  · go_enter Try.func83, Try.ntmps83
    go_wp2_with fail
    go_ret3
    exact ⟨But.refl _ _, .inl ⟨h1, rfl⟩⟩
  · have h2 : p.size ≤ 256 := by omega
    have hr : Rd (w.alloc (.cells #[.string p, .int .i64 0, .int .i64 (-1)] 138)) w.heap.size p (0 : Nat) (-1) := heap_alloc_new w _
    go_enter Try.func83, Try.ntmps83
    go_wp2_with fail
    refine (steps0 w.heap.size p _ hr h2 (gSteps p) rfl).mono ?_
    rintro e w1 ⟨v, l, x, rfl, hb, hr1, hI, hl, hlen⟩
    have hb1 : But No w w1 := ((But.refl No w).alloc _).trans_ hb (fun b hb e => by unfold One at e; omega)
    have hI1 : IsSteps w1 w.heap.size v l := ⟨own_mono hI.1 (by simp), hI.2⟩
    have c2 := hr1.c2
    clear hb hI
    obtain ⟨b, hbE⟩ : ∃ b, (gSteps p).1 = b := ⟨_, rfl⟩
    rw [hbE] at c2
    have HBE := Lib.hid hbE
    clear hbE hr1
    by_cases h3 : 0 ≤ b
    · go_wp2_with fail
      go_quiet (fail)
      go_wp2_with fail
      go_ret3
      exact ⟨hb1.drewN _, .inr (.inl ⟨h2, by rw [HBE.out]; exact h3, by rw [HBE.out]; rfl⟩)⟩
    · go_wp2_with fail
      go_ret3
      exact ⟨hb1, .inr (.inr ⟨h2, by rw [HBE.out]; omega, v, l, rfl, hI1, hl, hlen⟩)⟩
def checkRes (p : ByteArray) : Int × Int := if 256 < p.size then (0, 61) else if 0 ≤ (gSteps p).1 then ((gSteps p).1, 60) else (0, 0)
set_option maxHeartbeats 4000000 in
theorem check0 (p : ByteArray) (w : World) (hp : p.size ≤ 9223372036854775807) :
    Calls Try.prog 66 #[.string p] w fun e w' => e = .returned (.tuple #[.int .i64 (checkRes p).1, .int .i64 (checkRes p).2]) ∧ But No w w' := by
  go_enter Try.func66, Try.ntmps66
  go_wp2_with fail
  refine (read0 p w hp).mono ?_
  rintro e w1 ⟨hb, h⟩
  rcases h with ⟨h1, rfl⟩ | ⟨h1, h2, rfl⟩ | ⟨h1, h2, v, l, rfl, _, _, _⟩
  · have E := Lib.hid (show checkRes p = (0, 61) from if_pos h1)
    go_wp2_with fail
    go_ret2
    exact ⟨by rw [E.out]; rfl, hb⟩
  · have E := Lib.hid (show checkRes p = ((gSteps p).1, 60) from (if_neg (by omega)).trans (if_pos h2))
    go_wp2_with fail
    go_ret2
    exact ⟨by rw [E.out]; rfl, hb⟩
  · have E := Lib.hid (show checkRes p = (0, 0) from (if_neg (by omega)).trans (if_neg (by omega)))
    go_wp2_with fail
    go_ret2
    exact ⟨by rw [E.out]; rfl, hb⟩
end Go.Proofs.Ytinhlaiogkmkfaa.G
