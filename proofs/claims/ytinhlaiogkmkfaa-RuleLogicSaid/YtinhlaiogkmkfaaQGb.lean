import Derived.Test.YtinhlaiogkmkfaaProg
import Derived.Test.YtinhlaiogkmkfaaQGk
import Derived.WalkKit
import Derived.Deep.QuietTactic
import Derived.BigQuiet
import Derived.Deep.LoopGhost
import Derived.Laws.EntriesVeiled
namespace Go.Proofs.Ytinhlaiogkmkfaa.G
open Go.RowKit
attribute [local simp, local go_sem] alloc_drewN setCell_drewN
/-- what 'through' does to the marks: from place k on. -/
def thruTo (many : Nat → Bool) : Nat → (Nat → Bool) → Nat → Bool
  | 0, at_ => at_
  | k + 1, at_ => fun j => if j = k + 1 ∧ many k = true ∧ thruTo many k at_ k = true then true else thruTo many k at_ j
def rowB (n : Nat) (f : Nat → Bool) : Array Value := ((List.range n).map (fun j => Value.bool (f j))).toArray
theorem rowB_size (n : Nat) (f : Nat → Bool) : (rowB n f).size = n := by simp [rowB]
theorem rowB_get (n : Nat) (f : Nat → Bool) (i : Nat) (h : i < (rowB n f).size) : (rowB n f)[i] = .bool (f i) := by simp [rowB]
theorem rowB_set (n : Nat) (f : Nat → Bool) (i : Nat) (b : Bool) : (rowB n f).setIfInBounds i (.bool b) = rowB n (fun j => if j = i then b else f j) := by
  apply Array.ext
  · simp [rowB]
  · intro j h1 h2
    simp only [rowB_size, Array.size_setIfInBounds] at h1
    rw [Array.getElem_setIfInBounds (by simpa [rowB_size] using h1)]
    by_cases e : i = j
    · subst e; simp [rowB_get]
    · rw [if_neg e]; simp [rowB_get, Ne.symm e]

theorem thru_yes {wr : World} {n k g : Nat} {many at_ : Nat → Bool} (hb : wr.heap[g]? = some (.cells (rowB (n + 1) (thruTo many k at_)) 4 (0, 0)))
    (h1 : many k = true) (h2 : thruTo many k at_ k = true) (o : Obj) :
    ((wr.setCell ⟨g, k + 1, none⟩ (.bool true)).alloc o).heap[g]? = some (.cells (rowB (n + 1) (thruTo many (k + 1) at_)) 4 (0, 0)) := by
  rw [blkold (blkset hb (k + 1) (.bool true)) o, rowB_set]
  congr 3
  funext j
  simp [thruTo, h1, h2]
theorem thru_no {wr : World} {n k g : Nat} {many at_ : Nat → Bool} (hb : wr.heap[g]? = some (.cells (rowB (n + 1) (thruTo many k at_)) 4 (0, 0)))
    (h : many k = false ∨ thruTo many k at_ k = false) (o : Obj) :
    (wr.alloc o).heap[g]? = some (.cells (rowB (n + 1) (thruTo many (k + 1) at_)) 4 (0, 0)) := by
  rw [blkold hb o]
  congr 3
  funext j
  rcases h with h | h <;> simp [thruTo, h]

set_option maxHeartbeats 1000000 in
theorem through (n cap b : Nat) (many : Nat → Bool) (fn : Nat → Nat) (cp : Nat → Array Value) (g : Nat) (at_ : Nat → Bool) (w : World)
    (hm : ∀ i, i < n → w.cell? ⟨b, i * 2, none⟩ = some (.bool (many i)))
    (hf : ∀ i, i < n → w.cell? ⟨b, i * 2 + 1, none⟩ = some (.func (.func (fn i)) #[] (cp i)))
    (hlen : n ≤ 1000) (hg : b ≠ g)
    (hat : w.heap[g]? = some (.cells (rowB (n + 1) at_) 4 (0, 0))) :
    Calls Try.prog 112 #[.slice (some ⟨b, 0, none⟩) n cap, .slice (some ⟨g, 0, none⟩) (n + 1) (n + 1)] w fun e w' => e = .returned (.tuple #[]) ∧ But (One g) w w' ∧ w'.heap[g]? = some (.cells (rowB (n + 1) (thruTo many n at_)) 4 (0, 0)) := by
  have hlen' : n ≤ 9223372036854775807 := by omega
  go_enter Try.func112, Try.ntmps112
  go_wp2
  go_loopw [8] (fun i wr => ∃ k, k ≤ n ∧ i = .int .i64 k ∧ But (One g) w wr ∧ wr.heap[g]? = some (.cells (rowB (n + 1) (thruTo many k at_)) 4 (0, 0))) (fun i _ => n - (intOf i).toNat)
  case atStart => exact ⟨0, Nat.zero_le _, rfl, But.refl _ _, hat⟩
  case round =>
    obtain ⟨k, hk, rfl, hb, hrow⟩ := hrel
    by_cases hlt : k < n
    · have h1 := hb.cell_some (hm k hlt) hg
      have h2 := hb.cell_some (hf k hlt) hg
      have h3 := blkcell hrow k (by rw [rowB_size]; omega)
      rw [rowB_get] at h3
      have hgl := lt_of_block hrow
      have h4 := blkfree hrow (k + 1)
      have h5 := blkcell hrow (k + 1) (by rw [rowB_size]; omega)
      cases e1 : many k
      · rw [e1] at h1
        have g1 := thru_no hrow (.inl e1)
        go_wp2
        go_roundw
        case rel => exact ⟨k + 1, by omega, by go_num, hb.alloc _, g1 _⟩
        case measure => simp [intOf]; omega
      · rw [e1] at h1
        cases e2 : thruTo many k at_ k
        · rw [e2] at h3
          have g1 := thru_no hrow (.inr e2)
          go_wp2
          go_roundw
          case rel => exact ⟨k + 1, by omega, by go_num, hb.alloc _, g1 _⟩
          case measure => simp [intOf]; omega
        · rw [e2] at h3
          have g1 := thru_yes hrow e1 e2
          go_wp2
          go_roundw
          case rel => exact ⟨k + 1, by omega, by go_num, (hb.setCell (.inl (one_self _)) _).alloc _, g1 _⟩
          case measure => simp [intOf]; omega
    · go_wp2
      go_end0
      exact ⟨rfl, hb, by have : k = n := by omega
                         subst this; exact hrow⟩
end Go.Proofs.Ytinhlaiogkmkfaa.G
