/- The reference's single byte. -/
import Derived.Test.YtofgjlfgpnmmdaaRa
namespace Go.Proofs.Ytofgjlfgpnmmdaa.G
open Go.RowKit
attribute [local simp, local go_sem] alloc_drewN setCell_drewN
set_option linter.unusedVariables false
set_option linter.unusedSimpArgs false
set_option maxRecDepth 100000 in
set_option maxHeartbeats 2000000 in
theorem single0 (x : Nat) (hx : x < 256) (w : World) :
    Calls Try.prog 23 #[.int .u8 (x : Nat)] w fun e w' => e = .returned (.agg (pc 0 (fun c => decide (c = x)))) ∧ But No w w' := by
  have hv := zeroPc
  have hx' : (x : Int) < 256 := by omega
  have h1 := pc_at' 0 nof x hx
  have h2 : (pc 0 nof).setIfInBounds (1 + x) (.bool true) = pc 0 (fun c => decide (c = x)) := by
    rw [pc_set']
    rfl
  go_enter Try.func23, Try.ntmps23
  go_wp2_with (first | refine loadPc rfl _ rfl _ rfl 0 (fun c => decide (c = x)) (heap_alloc2_new w _ _) ?_ | refine storePc rfl _ _ rfl _ 0 (fun c => decide (c = x)) rfl rfl 0 nof (heap_alloc2_old w _ _) ?_)
  obtain ⟨l, hl⟩ := underPc
  refine bodyPost_ret (v := .agg (pc 0 fun c => decide (c = x))) ?_ rfl ⟨rfl, ?_⟩
  · exact results_cell_row rfl _ _ w.heap.size _ _ (0, 0) _ rfl (setRow_heap _ _ _ _ _ _ (heap_alloc2_old w _ _)) hl rfl (sizePc _ _)
  · exact (((But.refl No w).alloc _).alloc _).setRow (.inr (Nat.le_refl _)) _
end Go.Proofs.Ytofgjlfgpnmmdaa.G
