/- The functions of one byte that a pattern's steps hold. -/
import Derived.Test.YtinhlaiogkmkfaaQGc
namespace Go.Proofs.Ytinhlaiogkmkfaa.G
open Go.RowKit
attribute [local simp, local go_sem] alloc_drewN setCell_drewN
set_option linter.unusedVariables false
def Typ (w : World) (k t : Nat) : Prop := ∃ c fr, w.heap[k]? = some (.cells c t fr)
/-- The blocks of steps, and readers: what may change while a function of one byte is kept. -/
def Sty (w : World) : Nat → Prop := fun k => Typ w k 151 ∨ Typ w k 138
theorem not_sty {w : World} {k t : Nat} {c : Array Value} {fr : Nat × Nat} (h : w.heap[k]? = some (.cells c t fr)) (h1 : t ≠ 151) (h2 : t ≠ 138) : ¬ Sty w k := by
  rintro (⟨c', fr', h'⟩ | ⟨c', fr', h'⟩)
  · rw [h] at h'
    injection h' with h'
    injection h' with _ h'
    exact h1 h'
  · rw [h] at h'
    injection h' with h'
    injection h' with _ h'
    exact h2 h'
/-- f is a function of one byte that answers φ, now and later. -/
def Fits (w : World) (f : Value) (φ : Int → Bool) : Prop :=
  ∃ n cap, f = .func (.func n) #[] cap ∧ (∀ (args : Array Value) (w' : World), (callFunc n args).run Try.prog w' = .ok (.enter n args) w') ∧ ∀ w', But (Sty w) w w' → ∀ c : Int, 0 ≤ c → c ≤ 255 → Calls Try.prog n (#[.int .u8 c] ++ cap) w' fun e w'' => e = .returned (.bool (φ c)) ∧ But No w' w''
theorem sty_trans {w w' w'' : World} {S : Nat → Prop} (hb : But S w w') (hS : ∀ k, k < w.heap.size → S k → Sty w k) (hb2 : But (Sty w') w' w'') : But (Sty w) w w'' :=
  (hb.mono hS).trans_ hb2 (fun k hk hs => by
    by_cases h : Sty w k
    · exact h
    · have e := (hb.mono hS).block k hk h
      rcases hs with ⟨c, fr, hc⟩ | ⟨c, fr, hc⟩
      · exact .inl ⟨c, fr, e.symm.trans hc⟩
      · exact .inr ⟨c, fr, e.symm.trans hc⟩)
theorem Fits.later {w w' : World} {f : Value} {φ : Int → Bool} {S : Nat → Prop} (h : Fits w f φ) (hb : But S w w') (hS : ∀ k, k < w.heap.size → S k → Sty w k) : Fits w' f φ := by
  obtain ⟨n, cap, rfl, he, hc⟩ := h
  exact ⟨n, cap, rfl, he, fun w'' h2 => hc w'' (sty_trans hb hS h2)⟩
set_option maxHeartbeats 400000 in
theorem one1 (c x : Int) (g : Nat) (w : World) (hg : w.cell? ⟨g, 0, none⟩ = some (.int .u8 x)) :
    Calls Try.prog 123 #[.int .u8 c, .pointer (some ⟨g, 0, none⟩)] w fun e w' => e = .returned (.bool (c == x)) ∧ w' = w := by
  go_enter Try.func123, Try.ntmps123
  go_wp2
  go_ret
  exact ⟨rfl, rfl⟩
set_option maxHeartbeats 400000 in
theorem one0 (x : Int) (w : World) :
    Calls Try.prog 117 #[.int .u8 x] w fun e w' => e = .returned (.func (.func 123) #[] #[.pointer (some ⟨w.heap.size, 0, none⟩)]) ∧ w' = w.alloc (.cells #[.int .u8 x] 5) := by
  go_enter Try.func117, Try.ntmps117
  go_wp2
  go_ret
  exact ⟨rfl, rfl⟩
theorem one_fits (x : Int) (w : World) : Fits (w.alloc (.cells #[.int .u8 x] 5)) (.func (.func 123) #[] #[.pointer (some ⟨w.heap.size, 0, none⟩)]) (fun c => c == x) :=
  ⟨_, _, rfl, enters Try.func123 (by kernel_rfl) (by kernel_rfl), fun w' hb c _ _ => (one1 c x w.heap.size w' (hb.cell_some (p := ⟨w.heap.size, 0, none⟩) (by simp) (not_sty (heap_alloc_new w _) (by decide) (by decide)))).mono (fun e w'' ⟨he, hw⟩ => ⟨he, hw ▸ But.refl _ _⟩)⟩
theorem all0 (c : Int) (w : World) : Calls Try.prog 114 #[.int .u8 c] w fun e w' => e = .returned (.bool true) ∧ w' = w := by
  go_enter Try.func114, Try.ntmps114
  go_wp2
  go_ret
  exact ⟨rfl, rfl⟩
theorem all_fits (w : World) : Fits w (.func (.func 114) #[] #[]) (fun _ => true) :=
  ⟨_, _, rfl, enters Try.func114 (by kernel_rfl) (by kernel_rfl), fun w' _ c _ _ => (all0 c w').mono (fun e w'' ⟨he, hw⟩ => ⟨he, hw ▸ But.refl _ _⟩)⟩
theorem plain0 (c : Int) (w : World) : Calls Try.prog 115 #[.int .u8 c] w fun e w' => e = .returned (.bool (c != 47)) ∧ w' = w := by
  go_enter Try.func115, Try.ntmps115
  go_wp2
  go_ret
  exact ⟨rfl, rfl⟩
theorem plain_fits (w : World) : Fits w (.func (.func 115) #[] #[]) (fun c => c != 47) :=
  ⟨_, _, rfl, enters Try.func115 (by kernel_rfl) (by kernel_rfl), fun w' _ c _ _ => (plain0 c w').mono (fun e w'' ⟨he, hw⟩ => ⟨he, hw ▸ But.refl _ _⟩)⟩
def inTo (lo hi : Nat → Int) (c : Int) : Nat → Bool
  | 0 => false
  | k + 1 => inTo lo hi c k || (decide (lo k ≤ c) && decide (c ≤ hi k))
def classB (n : Nat) (lo hi : Nat → Int) (no : Bool) (c : Int) : Bool := (c != 47) && (inTo lo hi c n != no)
set_option maxHeartbeats 2000000 in
theorem class1 (c : Int) (gs gn n cap b : Nat) (lo hi : Nat → Int) (no : Bool) (w : World)
    (hs : w.cell? ⟨gs, 0, none⟩ = some (.slice (some ⟨b, 0, none⟩) n cap)) (hn : w.cell? ⟨gn, 0, none⟩ = some (.bool no))
    (hlo : ∀ i, i < n → w.cell? ⟨b, i * 2, none⟩ = some (.int .u8 (lo i)))
    (hhi : ∀ i, i < n → w.cell? ⟨b, i * 2 + 1, none⟩ = some (.int .u8 (hi i))) (hlen : n ≤ 1000) :
    Calls Try.prog 122 #[.int .u8 c, .pointer (some ⟨gs, 0, none⟩), .pointer (some ⟨gn, 0, none⟩)] w fun e w' => e = .returned (.bool (classB n lo hi no c)) ∧ But No w w' := by
  have hlen' : n ≤ 9223372036854775807 := by omega
  have hnlt := block_lt_of_cell hn
  simp only at hnlt
  go_enter Try.func122, Try.ntmps122
  go_wp2
  go_loopw [5, 10] (fun i j wr => ∃ k, k ≤ n ∧ i = .bool (inTo lo hi c k) ∧ j = .int .i64 k ∧ But No w wr) (fun _ j _ => n - (intOf j).toNat)
  case atStart => exact ⟨0, Nat.zero_le _, rfl, rfl, But.refl _ _⟩
  case round =>
    obtain ⟨k, hk, rfl, rfl, hb⟩ := hrel
    by_cases hlt : k < n
    · have h1 := hb.cell_some (hlo k hlt) (fun h => h)
      have h2 := hb.cell_some (hhi k hlt) (fun h => h)
      have hin : inTo lo hi c (k + 1) = (inTo lo hi c k || (decide (lo k ≤ c) && decide (c ≤ hi k))) := rfl
      have H := Lib.hid hin
      clear hin
      go_wp2
      all_goals
        go_roundw
        case rel => exact ⟨k + 1, by omega, by rw [H.out]; simp [*], by go_num, hb.alloc _⟩
        case measure => simp [intOf]; omega
    · have h3 := hb.cell_some hn (fun h => h)
      obtain rfl : k = n := by omega
      have hf : classB k lo hi no c = ((c != 47) && (inTo lo hi c k != no)) := rfl
      have H := Lib.hid hf
      clear hf
      cases e1 : (c != 47)
      · rw [e1] at H
        go_wp2
        go_ret
        exact ⟨by rw [H.out]; rfl, hb⟩
      · rw [e1] at H
        go_wp2
        go_ret
        exact ⟨by rw [H.out]; rfl, hb⟩
end Go.Proofs.Ytinhlaiogkmkfaa.G
