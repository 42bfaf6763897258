/- The reference's Match: the walk. -/
import Derived.Test.YtofgjlfgpnmmdaaRi
import Derived.Test.YtofgjlfgpnmmdaaGj
namespace Go.Proofs.Ytofgjlfgpnmmdaa.G
open Go.RowKit
attribute [local simp, local go_sem] alloc_drewN setCell_drewN
set_option linter.unusedVariables false
set_option linter.unusedSimpArgs false
set_option maxRecDepth 100000
/-- A piece as a step. -/
def toStp (q : Pce) : Stp := if q.1 = 0 then ⟨false, q.2⟩ else ⟨true, if q.1 = 2 then fun _ => true else fun c => c != 47⟩
def rL (p : ByteArray) : List Stp := match pcsGo p 0 [] with
  | .inl _ => []
  | .inr l => l.map toStp
def rmatchRes (p s : ByteArray) : Bool × Int := if (rcheckRes p).2 = 0 then (marks (rL p) s s.size (rL p).length, 0) else (false, (rcheckRes p).2)
theorem rmatchRes_of {p s : ByteArray} {e : Int × Int} (h : rcheckRes p = e) (hne : e.2 ≠ 0) : rmatchRes p s = (false, e.2) := by
  unfold rmatchRes
  rw [h, if_neg hne]
theorem many_toStp (l : List Pce) (i : Nat) (h : i < l.length) : (l[i].1 != 0) = manyOf (l.map toStp) i := by
  simp only [manyOf, List.getElem?_map, List.getElem?_eq_getElem h, Option.map_some, toStp]
  by_cases e : l[i].1 = 0 <;> simp [e]
theorem pcsCells_at (l : List Pce) : ∀ i j (hi : i < l.length), j < 257 → (pcsCells l)[i * 257 + j]? = (pcL l[i].1 (fun c => l[i].2 (c : Int)))[j]? := by
  induction l with
  | nil => intro i j hi; simp at hi
  | cons s l ih =>
    intro i j hi hj
    have hl := pcL_length s.1 (fun c => s.2 (c : Int))
    cases i with
    | zero =>
      simp only [pcsCells, List.flatMap_cons, Nat.zero_mul, Nat.zero_add, List.getElem_cons_zero]
      rw [List.getElem?_append_left (by omega)]
    | succ i =>
      have := ih i j (by simpa using hi) hj
      simp only [pcsCells, List.flatMap_cons] at this ⊢
      rw [List.getElem?_append_right (by omega), hl, show (i + 1) * 257 + j - 257 = i * 257 + j from by omega]
      simpa using this
/-- What is known of a piece's place. -/
theorem piece_cells {w : World} {base : Nat} {A : Option Addr} {c : Nat} {l : List Pce} (h : IsPcs w base (.slice A l.length c) l) : ∀ i (hi : i < l.length), ∃ b, A = some ⟨b, 0, none⟩ ∧ base ≤ b ∧ b < w.heap.size ∧
    w.cell? ⟨b, i * 257, none⟩ = some (.int .i64 l[i].1) ∧ ∀ x : Nat, x < 256 → w.cell? ⟨b, i * 257 + 1 + x, none⟩ = some (.bool (l[i].2 (x : Int))) := by
  intro i hi
  rcases h with ⟨hl, ⟨hv, h0⟩ | ⟨g, cap, cur, hv, hg, hh, hc, hm, hcs, ht⟩⟩
  · omega
  · injection hv with hA _ _
    have hcell : ∀ j u, (pcsCells l)[j]? = some u → w.cell? ⟨g, j, none⟩ = some u := by
      intro j u hj
      rw [cell_of_row w g j cur _ _ hh, ← Array.getElem?_toList]
      rw [← ht] at hj
      rw [List.getElem?_take] at hj
      split at hj
      · exact hj
      · simp at hj
    refine ⟨g, hA, hg, lt_of_block hh, ?_, fun x hx => ?_⟩
    · have := pcsCells_at l i 0 hi (by omega)
      rw [Nat.add_zero, pcL_kind] at this
      exact hcell _ _ this
    · have := pcsCells_at l i (x + 1) hi (by omega)
      rw [pcL_at _ _ _ hx] at this
      have h2 := hcell _ _ this
      rwa [show i * 257 + (x + 1) = i * 257 + 1 + x from by omega] at h2
theorem open_any (n cap : Nat) (A : Option Addr) (kd : Nat → Int) (many : Nat → Bool) (g : Nat) (at_ : Nat → Bool) (w : World) (hk : ∀ i, i < n → (kd i != 0) = many i)
    (hA : ∀ i, i < n → ∃ b, A = some ⟨b, 0, none⟩ ∧ b ≠ g ∧ w.cell? ⟨b, i * 257, none⟩ = some (.int .i64 (kd i)))
    (hlen : n ≤ 1000)
    (hat : w.heap[g]? = some (.cells (rowB (n + 1) at_) 4 (0, 0))) :
    Calls Try.prog 20 #[.slice A n cap, .slice (some ⟨g, 0, none⟩) (n + 1) (n + 1)] w fun e w' => e = .returned (.tuple #[]) ∧ But (One g) w w' ∧ w'.heap[g]? = some (.cells (rowB (n + 1) (thruTo many n at_)) 4 (0, 0)) := by
  rcases Nat.eq_zero_or_pos n with h0 | h0
  · subst h0
    go_enter Try.func20, Try.ntmps20
    go_wp2
    go_loopw [4] (fun i wr => i = .int .i64 0 ∧ wr = w) (fun i _ => 0)
    case atStart => exact ⟨rfl, rfl⟩
    case round =>
      obtain ⟨rfl, rfl⟩ := hrel
      go_wp2
      go_end0
      exact ⟨rfl, But.refl _ _, hat⟩
  · obtain ⟨b, rfl, hne, _⟩ := hA 0 h0
    have h1 : ∀ i, i < n → w.cell? ⟨b, i * 257, none⟩ = some (.int .i64 (kd i)) := by
      intro i hi
      obtain ⟨b', hb', _, c1⟩ := hA i hi
      injection hb' with hb'
      injection hb' with hb'
      subst hb'
      exact c1
    exact open0 n cap b kd many g at_ w hk h1 hlen hne hat
/-- The step k sets no mark behind k. -/
theorem nextTo_off (L : List Stp) (S : Nat → Bool) (c : Int) : ∀ k j, k < j → nextTo L S c k j = false := by
  intro k
  induction k with
  | zero => intro j _; rfl
  | succ k ih =>
    intro j hj
    unfold nextTo
    split
    · rename_i q hq
      rw [if_neg (by
        intro h
        have := h.2.2
        split at this <;> omega)]
      exact ih j (by omega)
    · exact ih j (by omega)
theorem nextTo_skip (L : List Stp) (S : Nat → Bool) (c : Int) (k : Nat) (h : S k = false) : nextTo L S c (k + 1) = nextTo L S c k := by
  funext j
  conv => lhs; unfold nextTo
  split
  · rw [if_neg (by rw [h]; simp)]
  · rfl
theorem nextTo_no (L : List Stp) (S : Nat → Bool) (c : Int) (k : Nat) (hk : k < L.length) (h : L[k].fits c = false) : nextTo L S c (k + 1) = nextTo L S c k := by
  funext j
  conv => lhs; unfold nextTo
  rw [List.getElem?_eq_getElem hk]
  simp [h]
theorem nextTo_one (L : List Stp) (S : Nat → Bool) (c : Int) (k : Nat) (hk : k < L.length) (hS : S k = true) (h1 : L[k].many = false) : nextTo L S c (k + 1) = fun j => if j = k + 1 then L[k].fits c else nextTo L S c k j := by
  funext j
  conv => lhs; unfold nextTo
  rw [List.getElem?_eq_getElem hk]
  simp only [hS, h1, true_and, if_false, Bool.false_eq_true]
  by_cases e : j = k + 1
  · subst e
    rw [nextTo_off L S c k (k + 1) (by omega)]
    cases L[k].fits c <;> simp
  · simp [e]
theorem nextTo_many (L : List Stp) (S : Nat → Bool) (c : Int) (k : Nat) (hk : k < L.length) (hS : S k = true) (h1 : L[k].many = true) (h2 : L[k].fits c = true) : nextTo L S c (k + 1) = fun j => if j = k then true else nextTo L S c k j := by
  funext j
  conv => lhs; unfold nextTo
  rw [List.getElem?_eq_getElem hk]
  simp [hS, h1, h2]
end Go.Proofs.Ytofgjlfgpnmmdaa.G
