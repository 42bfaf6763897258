/- The reader's brackets. -/
import Derived.Test.YtinhlaiogkmkfaaQGd
import Derived.Deep.RegionHeld3
import Derived.Deep.DeepCutAuto
import Derived.Deep.CutBlock
namespace Go.Proofs.Ytinhlaiogkmkfaa.G
open Go.RowKit
attribute [local simp, local go_sem] alloc_drewN setCell_drewN
set_option linter.unusedVariables false
set_option maxRecDepth 100000
def spanCells (l : List (Int × Int)) : List Value := l.flatMap fun s => [.int .u8 s.1, .int .u8 s.2]
theorem spanCells_append (l m : List (Int × Int)) : spanCells (l ++ m) = spanCells l ++ spanCells m := by simp [spanCells]
theorem spanCells_at (l : List (Int × Int)) : ∀ i, i < l.length → (spanCells l)[i * 2]? = some (.int .u8 (l.getD i (0, 0)).1) ∧ (spanCells l)[i * 2 + 1]? = some (.int .u8 (l.getD i (0, 0)).2) := by
  induction l with
  | nil => intro i h; simp at h
  | cons s l ih =>
    intro i h
    cases i with
    | zero => simp [spanCells]
    | succ i =>
      have := ih i (by simpa using h)
      simp only [spanCells, List.flatMap_cons] at this ⊢
      rw [show (i + 1) * 2 = i * 2 + 2 from by omega]
      simpa using this
/-- The ranges of brackets from place x on; fr: where the bracket stands. -/
def classGo (p : ByteArray) (fr : Nat) (x : Nat) (y : Int) (l : List (Int × Int)) : Nat × Int × List (Int × Int) :=
  if h : x < p.size ∧ bt p x ≠ 93 then
    if byteA p x + 1 < p.size ∧ bt p (byteA p x) = 45 ∧ bt p (byteA p x + 1) ≠ 93 then
      classGo p fr (byteA p (byteA p x + 1))
        (if byteV p (byteA p x + 1) < byteV p x then wrongAt (byteB p (byteA p x + 1) (byteB p x y)) fr else byteB p (byteA p x + 1) (byteB p x y))
        (l ++ [(byteV p x, byteV p (byteA p x + 1))])
    else classGo p fr (byteA p x) (byteB p x y) (l ++ [(byteV p x, byteV p x)])
  else (x, y, l)
termination_by p.size - x
decreasing_by
  all_goals
    have h1 : x < byteA p x := by unfold byteA; split <;> (try split) <;> omega
    have h2 : ∀ z, z < byteA p z := by intro z; unfold byteA; split <;> (try split) <;> omega
    have h3 := h2 (byteA p x + 1)
    omega
theorem byteA_lt (p : ByteArray) (x : Nat) : x < byteA p x := by unfold byteA; split <;> (try split) <;> omega
theorem byteA_le (p : ByteArray) (x : Nat) (h : x < p.size) : byteA p x ≤ p.size := by unfold byteA; split <;> (try split) <;> omega
def classL (l : List (Int × Int)) (no : Bool) (c : Int) : Bool := (c != 47) && ((l.any fun s => decide (s.1 ≤ c) && decide (c ≤ s.2)) != no)
theorem inTo_list (l : List (Int × Int)) (c : Int) : ∀ k, k ≤ l.length → inTo (fun i => (l.getD i (0, 0)).1) (fun i => (l.getD i (0, 0)).2) c k = (l.take k).any fun s => decide (s.1 ≤ c) && decide (c ≤ s.2) := by
  intro k
  induction k with
  | zero => intro _; rfl
  | succ k ih =>
    intro h
    have hk : k < l.length := by omega
    rw [inTo, ih (by omega), List.take_succ_eq_append_getElem hk, List.any_append]
    simp [List.getD_eq_getElem?_getD, List.getElem?_eq_getElem hk]
theorem classB_list (l : List (Int × Int)) (no : Bool) (c : Int) : classB l.length (fun i => (l.getD i (0, 0)).1) (fun i => (l.getD i (0, 0)).2) no c = classL l no c := by
  unfold classB classL
  rw [inTo_list l c l.length (Nat.le_refl _), List.take_length]
set_option maxHeartbeats 2000000 in
theorem class1nil (c : Int) (gs gn : Nat) (no : Bool) (w : World)
    (hs : w.cell? ⟨gs, 0, none⟩ = some (.slice none 0 0)) (hn : w.cell? ⟨gn, 0, none⟩ = some (.bool no)) :
    Calls Try.prog 122 #[.int .u8 c, .pointer (some ⟨gs, 0, none⟩), .pointer (some ⟨gn, 0, none⟩)] w fun e w' => e = .returned (.bool (classL [] no c)) ∧ But No w w' := by
  have H := Lib.hid (show classL [] no c = ((c != 47) && (false != no)) from rfl)
  go_enter Try.func122, Try.ntmps122
  go_wp2
  go_loopw [5, 10] (fun i j wr => i = .bool false ∧ j = .int .i64 0 ∧ wr = w) (fun _ j _ => 0)
  case atStart => exact ⟨rfl, rfl, rfl⟩
  case round =>
    obtain ⟨rfl, rfl, rfl⟩ := hrel
    cases e1 : (c != 47)
    · rw [e1] at H
      go_wp2
      go_ret
      exact ⟨by rw [H.out]; cases no <;> rfl, But.refl _ _⟩
    · rw [e1] at H
      go_wp2
      go_ret
      exact ⟨by rw [H.out]; cases no <;> rfl, But.refl _ _⟩
theorem class_fits (w : World) (gs gn base : Nat) (v : Value) (l : List (Int × Int)) (no : Bool)
    (hs : w.heap[gs]? = some (.cells #[v] 160 (0, 0))) (hn : w.heap[gn]? = some (.cells #[.bool no] 4 (0, 0)))
    (ho : w.ownsRow base 162 2 v l.length (spanCells l)) (hlen : l.length ≤ 1000) :
    Fits w (.func (.func 122) #[] #[.pointer (some ⟨gs, 0, none⟩), .pointer (some ⟨gn, 0, none⟩)]) (classL l no) := by
  refine ⟨_, _, rfl, enters Try.func122 (by kernel_rfl) (by kernel_rfl), fun w' hb c _ _ => ?_⟩
  have hs' := hb.cell_some (cell_of_one hs) (not_sty hs (by decide) (by decide))
  have hn' := hb.cell_some (cell_of_one hn) (not_sty hn (by decide) (by decide))
  rcases ho with ⟨_, ⟨rfl, h0⟩ | ⟨g, cap, cur, rfl, hg, hh, hc, hm, hcs, ht⟩⟩
  · obtain rfl : l = [] := List.eq_nil_of_length_eq_zero h0
    exact class1nil c gs gn no w' hs' hn'
  · have hcell : ∀ j u, (spanCells l)[j]? = some u → w.cell? ⟨g, j, none⟩ = some u := by
      intro j u hj
      rw [cell_of_row w g j cur _ _ hh, ← Array.getElem?_toList]
      rw [← ht] at hj
      rw [List.getElem?_take] at hj
      split at hj
      · exact hj
      · simp at hj
    rw [← classB_list]
    exact class1 c gs gn l.length cap g _ _ no w' hs' hn' (fun i hi => hb.cell_some (hcell _ _ (spanCells_at l i hi).1) (not_sty hh (by decide) (by decide))) (fun i hi => hb.cell_some (hcell _ _ (spanCells_at l i hi).2) (not_sty hh (by decide) (by decide))) hlen
end Go.Proofs.Ytinhlaiogkmkfaa.G
