/- The reference's pieces: what a pattern is read as. -/
import Derived.Test.YtofgjlfgpnmmdaaRe
namespace Go.Proofs.Ytofgjlfgpnmmdaa.G
open Go.RowKit
set_option linter.unusedVariables false
set_option linter.unusedSimpArgs false
/-- The place behind brackets lies behind them. -/
theorem rgo_ge (p : ByteArray) : ∀ n x R z S, p.size - x ≤ n → rgo p x R = some (z, S) → x ≤ z := by
  intro n
  induction n with
  | zero =>
    intro x R z S h e
    have hg : goes p x = false := by
      cases hg : goes p x with
      | false => rfl
      | true => have := goes_lt hg; omega
    rw [rgo_stop R hg] at e
    simp at e
    omega
  | succ n ih =>
    intro x R z S h e
    have h1 := byteA_lt p x
    have h2 := byteA_lt p (byteA p x + 1)
    rw [rgo] at e
    split at e
    · split at e
      · cases e
      · split at e
        · split at e
          · cases e
          · split at e
            · cases e
            · have := ih _ _ _ _ (by omega) e
              omega
        · have := ih _ _ _ _ (by omega) e
          omega
    · simp at e
      omega
theorem brk_gt {p : ByteArray} {fr z : Nat} {f : Int → Bool} (h : brk p fr = some (z, f)) : fr < z := by
  unfold brk at h
  split at h
  · rename_i y R hr
    have := rgo_ge p _ _ _ _ _ (Nat.le_refl _) hr
    split at h
    · simp at h
      have h1 := h.1
      split at this <;> omega
    · cases h
  · cases h
abbrev Pce := Int × (Int → Bool)
/-- A pattern's pieces from place x on: the first wrong place, or the pieces. -/
def pcsGo (p : ByteArray) (x : Nat) (l : List Pce) : Sum Nat (List Pce) :=
  if h : x < p.size then
    if bt p x = 42 then
      if x + 1 < p.size ∧ bt p (x + 1) = 42 then pcsGo p (x + 2) (l ++ [((2, fun _ => false) : Pce)])
      else pcsGo p (x + 1) (l ++ [((1, fun _ => false) : Pce)])
    else if bt p x = 63 then pcsGo p (x + 1) (l ++ [((0, fun c => c != 47) : Pce)])
    else if bt p x = 91 then
      match hb : brk p x with
      | some F => pcsGo p F.1 (l ++ [((0, F.2) : Pce)])
      | none => .inl x
    else if bt p x = 92 then
      if p.size ≤ x + 1 then .inl x else pcsGo p (x + 2) (l ++ [((0, fun c => c == bt p (x + 1)) : Pce)])
    else pcsGo p (x + 1) (l ++ [((0, fun c => c == bt p x) : Pce)])
  else .inr l
termination_by p.size - x
decreasing_by
  all_goals first
    | omega
    | (have := brk_gt (z := F.1) (f := F.2) hb; omega)
end Go.Proofs.Ytofgjlfgpnmmdaa.G
