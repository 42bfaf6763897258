/- The reference's Check and open. -/
import Derived.Test.YtofgjlfgpnmmdaaRh
import Derived.Test.YtofgjlfgpnmmdaaGi
namespace Go.Proofs.Ytofgjlfgpnmmdaa.G
open Go.RowKit
attribute [local simp, local go_sem] alloc_drewN setCell_drewN
set_option linter.unusedVariables false
set_option linter.unusedSimpArgs false
set_option maxRecDepth 100000
def rcheckRes (p : ByteArray) : Int × Int := if 256 < p.size then (0, 61) else match pcsGo p 0 [] with
  | .inl z => ((z : Int), 60)
  | .inr _ => (0, 0)
set_option maxHeartbeats 4000000 in
theorem rcheck0 (p : ByteArray) (w : World) (hp : p.size ≤ 9223372036854775807) :
    Calls Try.prog 11 #[.string p] w fun e w' => e = .returned (.tuple #[.int .i64 (rcheckRes p).1, .int .i64 (rcheckRes p).2]) ∧ But No w w' := by
  have hp2 : p.size ≤ 9223372036854775807 := by omega
  by_cases h1 : 256 < p.size
  · have E := Lib.hid (show rcheckRes p = (0, 61) from if_pos h1)
    go_enter Try.func11, Try.ntmps11
    go_wp2_with fail
    go_ret2
    exact ⟨by rw [E.out]; rfl, But.refl _ _⟩
  · have h2 : p.size ≤ 256 := by omega
    cases hG : pcsGo p 0 [] with
    | inl z =>
      have E := Lib.hid (show rcheckRes p = ((z : Int), 60) from by unfold rcheckRes; rw [if_neg h1, hG])
      have H := Lib.hid hG
      clear hG
      go_enter Try.func11, Try.ntmps11
      go_wp2_with fail
      refine (pieces0 p h2 w _ H.out).mono ?_
      rintro e w1 ⟨hb, rfl⟩
      go_wp2_with fail
      go_ret2
      exact ⟨by rw [E.out]; rfl, hb⟩
    | inr l =>
      have E := Lib.hid (show rcheckRes p = (0, 0) from by unfold rcheckRes; rw [if_neg h1, hG])
      have H := Lib.hid hG
      clear hG
      go_enter Try.func11, Try.ntmps11
      go_wp2_with fail
      refine (pieces0 p h2 w _ H.out).mono ?_
      rintro e w1 ⟨hb, v, rfl, hI⟩
      go_wp2_with fail
      go_ret2
      exact ⟨by rw [E.out]; rfl, hb⟩
theorem thru_yes' {wr : World} {n k g : Nat} {many at_ : Nat → Bool} (hb : wr.heap[g]? = some (.cells (rowB (n + 1) (thruTo many k at_)) 4 (0, 0)))
    (h1 : many k = true) (h2 : thruTo many k at_ k = true) :
    (wr.setCell ⟨g, k + 1, none⟩ (.bool true)).heap[g]? = some (.cells (rowB (n + 1) (thruTo many (k + 1) at_)) 4 (0, 0)) := by
  rw [blkset hb (k + 1) (.bool true), rowB_set]
  congr 3
  funext j
  simp [thruTo, h1, h2]
theorem thru_no' {wr : World} {n k g : Nat} {many at_ : Nat → Bool} (hb : wr.heap[g]? = some (.cells (rowB (n + 1) (thruTo many k at_)) 4 (0, 0)))
    (h : many k = false ∨ thruTo many k at_ k = false) :
    wr.heap[g]? = some (.cells (rowB (n + 1) (thruTo many (k + 1) at_)) 4 (0, 0)) := by
  rw [hb]
  congr 3
  funext j
  rcases h with h | h <;> simp [thruTo, h]
set_option maxHeartbeats 1000000 in
theorem open0 (n cap b : Nat) (kd : Nat → Int) (many : Nat → Bool) (g : Nat) (at_ : Nat → Bool) (w : World) (hk : ∀ i, i < n → (kd i != 0) = many i)
    (hm : ∀ i, i < n → w.cell? ⟨b, i * 257, none⟩ = some (.int .i64 (kd i)))
    (hlen : n ≤ 1000) (hg : b ≠ g)
    (hat : w.heap[g]? = some (.cells (rowB (n + 1) at_) 4 (0, 0))) :
    Calls Try.prog 20 #[.slice (some ⟨b, 0, none⟩) n cap, .slice (some ⟨g, 0, none⟩) (n + 1) (n + 1)] w fun e w' => e = .returned (.tuple #[]) ∧ But (One g) w w' ∧ w'.heap[g]? = some (.cells (rowB (n + 1) (thruTo many n at_)) 4 (0, 0)) := by
  have hlen' : n ≤ 9223372036854775807 := by omega
  have HK := Lib.hid hk
  clear hk
  go_enter Try.func20, Try.ntmps20
  go_wp2
  go_loopw [4] (fun i wr => ∃ k, k ≤ n ∧ i = .int .i64 k ∧ But (One g) w wr ∧ wr.heap[g]? = some (.cells (rowB (n + 1) (thruTo many k at_)) 4 (0, 0))) (fun i _ => n - (intOf i).toNat)
  case atStart => exact ⟨0, Nat.zero_le _, rfl, But.refl _ _, hat⟩
  case round =>
    obtain ⟨k, hk, rfl, hb, hrow⟩ := hrel
    by_cases hlt : k < n
    · have h1 := hb.cell_some (hm k hlt) hg
      have h3 := blkcell hrow k (by rw [rowB_size]; omega)
      rw [rowB_get] at h3
      have h4 := blkfree hrow (k + 1)
      have h5 := blkcell hrow (k + 1) (by rw [rowB_size]; omega)
      have hkk := HK.out k hlt
      obtain ⟨d, hd⟩ : ∃ d, kd k = d := ⟨_, rfl⟩
      rw [hd] at h1 hkk
      clear hd
      cases e2 : thruTo many k at_ k
      · rw [e2] at h3
        have g1 := Lib.hid (thru_no' hrow (.inr e2))
        clear e2 hkk
        go_wp2
        go_roundw
        case rel => exact ⟨k + 1, by omega, by go_num, hb, g1.out⟩
        case measure => simp [intOf]; omega
      · rw [e2] at h3
        cases e1 : many k
        · rw [e1] at hkk
          have g1 := Lib.hid (thru_no' hrow (.inl e1))
          clear e1 e2
          go_wp2
          go_roundw
          case rel => exact ⟨k + 1, by omega, by go_num, hb, g1.out⟩
          case measure => simp [intOf]; omega
        · rw [e1] at hkk
          have g1 := Lib.hid (thru_yes' hrow e1 e2)
          clear e1 e2
          go_wp2
          go_roundw
          case rel => exact ⟨k + 1, by omega, by go_num, hb.setCell (.inl (one_self _)) _, g1.out⟩
          case measure => simp [intOf]; omega
    · go_wp2
      go_end0
      exact ⟨rfl, hb, by have : k = n := by omega
                         subst this; exact hrow⟩
end Go.Proofs.Ytofgjlfgpnmmdaa.G
