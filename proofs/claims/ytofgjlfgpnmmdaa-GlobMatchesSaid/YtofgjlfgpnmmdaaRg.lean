/- The reference's pieces: a slice of one piece, made in place. -/
import Derived.Test.YtofgjlfgpnmmdaaRf
namespace Go.Proofs.Ytofgjlfgpnmmdaa.G
open Go.RowKit
set_option linter.unusedVariables false
set_option linter.unusedSimpArgs false
theorem foldl_sets (L : List Value) : ∀ (k : Nat) (A : Array Value), (List.foldl (fun (cs : Array Value) (x : Value × Nat) => cs.setIfInBounds (0 + x.2) x.1) A (L.zipIdx k)).size = A.size ∧
    ∀ i, (List.foldl (fun (cs : Array Value) (x : Value × Nat) => cs.setIfInBounds (0 + x.2) x.1) A (L.zipIdx k))[i]? = if k ≤ i ∧ i < k + L.length ∧ i < A.size then L[i - k]? else A[i]? := by
  induction L with
  | nil => intro k A; refine ⟨rfl, fun i => ?_⟩; rw [if_neg (by simp; omega)]; rfl
  | cons v L ih =>
    intro k A
    obtain ⟨h1, h2⟩ := ih (k + 1) (A.setIfInBounds (0 + k) v)
    rw [List.zipIdx_cons, List.foldl_cons]
    refine ⟨by rw [h1]; simp, fun i => ?_⟩
    rw [h2 i, Array.size_setIfInBounds]
    by_cases e : i = k
    · subst e
      rw [if_neg (by omega)]
      by_cases hs : i < A.size
      · rw [if_pos ⟨by omega, by simp, hs⟩]
        simp [Array.getElem?_setIfInBounds, hs]
      · rw [if_neg (by omega)]
        simp [Array.getElem?_setIfInBounds, hs]
    · by_cases hin : k ≤ i ∧ i < k + (v :: L).length ∧ i < A.size
      · rw [if_pos hin, if_pos ⟨by omega, by have := hin.2.1; simp at this; omega, hin.2.2⟩]
        rw [show i - k = (i - (k + 1)) + 1 from by omega, List.getElem?_cons_succ]
      · rw [if_neg hin, if_neg (by simp at hin ⊢; omega)]
        rw [Array.getElem?_setIfInBounds, if_neg (by omega)]
theorem fill_all (A c : Array Value) (h : A.size = c.size) : (c.zipIdx.foldl (fun (cs : Array Value) (x : Value × Nat) => cs.setIfInBounds (0 + x.2) x.1) A) = c := by
  rw [← Array.foldl_toList, Array.toList_zipIdx]
  obtain ⟨h1, h2⟩ := foldl_sets c.toList 0 A
  apply Array.ext_getElem?
  intro i
  rw [h2 i]
  by_cases hi : i < c.size
  · rw [if_pos ⟨by omega, by simpa using hi, by omega⟩]
    simp
  · rw [if_neg (by omega), Array.getElem?_eq_none (by omega), Array.getElem?_eq_none (by omega)]
theorem run_onePc (k : Int) (f : Nat → Bool) (w : World) : (Instr.buildSlice 37 1 #[(0, .agg (pc k f))]).run Try.prog w = .ok (.slice (some ⟨w.heap.size, 0, none⟩) 1 1) (w.alloc (.cells (pc k f) 47)) := by
  have hs := sizePc k f
  rw [pc_size] at hs
  have hz := zeroPc
  have hu := Try.underlying37
  cases hq : Try.prog.info? 47 with
  | none => simp [hq] at hs
  | some i =>
    have hsz : i.size = 257 := by simpa [hq] using hs
    have hfill : ∀ A : Array Value, A.size = 257 → Instr.fill (fun i => some (i * 257, 257)) A [(0, .agg (pc k f))] = some (pc k f) := by
      intro A hA
      have h := fill_all A (pc k f) (by rw [hA, pc_size])
      simp only [Instr.fill, Value.cells, pc_size, Nat.zero_mul]
      rw [if_neg (by simp [hA])]
      exact congrArg some h
    simp [Instr.buildSlice, run_underlying hu, sizeOf, typeInfo, hq, hsz, hz, Sem.run_bind]
    rw [hfill _ (by rw [Array.size_map, Array.size_range])]
    simp [newRow, go_sem]
theorem onePc {ops : Array Oper} {rest : List Oper} {o : Oper} {a : Act} {w : World} {Q : Exit → Act → World → Prop} (hgd : o.guard = none) (x : Operand) (ho : o.op = .buildSlice 37 1 #[(0, x)])
    (k : Int) (f : Nat → Bool) (hx : a.eval x = .agg (pc k f))
    (h : wpList Try.prog ops Q rest (a.put o.dst (.slice (some ⟨w.heap.size, 0, none⟩) 1 1)) (w.alloc (.cells (pc k f) 47))) : wpList Try.prog ops Q (o :: rest) a w := by
  refine wpList_plain hgd fun _ hK => ?_
  have hm : (#[(0, x)] : Array (Nat × Operand)).map (fun (i, y) => (i, a.eval y)) = #[(0, .agg (pc k f))] := by simp [hx]
  unfold Oper.wp execOp
  simp only [ho, hm, Sem.run_bind, Sem.run_pure, Result.andThen_ok, run_onePc]
  exact hK _ _ h
end Go.Proofs.Ytofgjlfgpnmmdaa.G
