/- The awake calls of chapter 6, plain. -/
import Derived.Test.YtofgjlfgpnmmdaaGr
namespace Go.Proofs.Ytofgjlfgpnmmdaa.G
open Go.RowKit
set_option linter.unusedVariables false
set_option linter.unusedSimpArgs false
theorem match_eq {p s : ByteArray} {L : List Stp} (hp : p.size ≤ 256) (h : parseL (bl p) = some L) (b : Bool) (hb : b = true ↔ Mat L (bl s)) : matchRes p s = (b, 0) := by
  obtain ⟨h1, h2⟩ := match_yes (s := s) hp h
  have : (matchRes p s).1 = b := by
    rw [Bool.eq_iff_iff, h2, hb]
  rw [← this, ← h1]
theorem parse_abc : parseL (bl ⟨#[97, 42, 99]⟩) = some [⟨false, fun d => d == 97⟩, ⟨true, fun c => c != 47⟩, ⟨false, fun d => d == 99⟩] := by
  rw [show bl ⟨#[97, 42, 99]⟩ = [97, 42, 99] from rfl]
  rw [parse_byte 97 [42, 99] (by decide) (by decide) (by decide) 97 [42, 99] rfl, parse_plain [99] (by decide), parse_byte 99 [] (by decide) (by decide) (by decide) 99 [] rfl, parse_nil]
  rfl
theorem awake1 : matchRes ⟨#[97, 42, 99]⟩ ⟨#[97, 98, 98, 99]⟩ = (true, 0) := by
  refine match_eq (by decide) parse_abc true ?_
  rw [show bl ⟨#[97, 98, 98, 99]⟩ = [97, 98, 98, 99] from rfl]
  refine ⟨fun _ => ?_, fun _ => rfl⟩
  rw [Mat_cons_one]
  refine ⟨97, [98, 98, 99], rfl, rfl, ?_⟩
  rw [Mat_cons_many]
  refine ⟨[98, 98], [99], rfl, by decide, ?_⟩
  rw [Mat_single_one]
  exact ⟨99, rfl, rfl⟩
theorem awake2 : matchRes ⟨#[97, 42, 99]⟩ ⟨#[97, 47, 99]⟩ = (false, 0) := by
  refine match_eq (by decide) parse_abc false ?_
  rw [show bl ⟨#[97, 47, 99]⟩ = [97, 47, 99] from rfl]
  refine ⟨fun h => (Bool.false_ne_true h).elim, fun h => ?_⟩
  exfalso
  rw [Mat_cons_one] at h
  obtain ⟨c, r, h1, h2, h3⟩ := h
  simp only [List.cons.injEq] at h1
  obtain ⟨rfl, rfl⟩ := h1
  rw [Mat_cons_many] at h3
  obtain ⟨u1, u2, h4, h5, h6⟩ := h3
  rw [Mat_single_one] at h6
  obtain ⟨d, rfl, h7⟩ := h6
  cases u1 with
  | nil => simp at h4
  | cons e u1 =>
    simp only [List.cons_append, List.cons.injEq] at h4
    have := h5 e (by simp)
    rw [← h4.1] at this
    simp at this
theorem awake3 : checkRes ⟨#[97, 91]⟩ = (1, 60) := by
  have hb : byteA ⟨#[97, 91]⟩ 0 = 1 := by decide
  have hy : byteB ⟨#[97, 91]⟩ 0 (-1) = -1 := by decide
  have hc : clsF ⟨#[97, 91]⟩ 1 (-1) = (2, -1, []) := by
    unfold clsF
    rw [show notAt ⟨#[97, 91]⟩ (1 + 1) = false from by decide]
    rw [classGo, dif_neg (by decide)]
    rfl
  have h : gSteps ⟨#[97, 91]⟩ = (1, [⟨false, fun c => c == byteV ⟨#[97, 91]⟩ 0⟩] ++ [⟨false, classL [] (notAt ⟨#[97, 91]⟩ 2)⟩]) := by
    unfold gSteps
    rw [stepsGo, dif_pos (by decide), if_neg (by decide), if_neg (by decide), if_neg (by decide), hb, hy]
    rw [stepsGo, dif_pos (by decide), if_neg (by decide), if_neg (by decide), if_pos (by decide), hc]
    rw [stepsGo, dif_neg (by decide)]
    rfl
  unfold checkRes
  rw [if_neg (by decide), h, if_pos (by decide)]
end Go.Proofs.Ytofgjlfgpnmmdaa.G
