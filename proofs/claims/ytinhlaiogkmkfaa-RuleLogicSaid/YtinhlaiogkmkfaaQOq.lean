/- The arguments of chapter 12's laws, opened. -/
import Derived.Test.YtinhlaiogkmkfaaQPw
import Derived.Test.YtinhlaiogkmkfaaQOp
namespace Go.Proofs.Ytinhlaiogkmkfaa.PA
open Go.RowKit Go.Proofs.Ytinhlaiogkmkfaa.G Go.Proofs.YtinhlaiogkmkfaaW.PrintWords
set_option linter.unusedVariables false
set_option linter.unusedSimpArgs false
set_option maxRecDepth 100000
theorem c3 : Try.prog.cellsOf 3 = 1 := by kernel_rfl
theorem c9 : Try.prog.cellsOf 9 = 1 := by kernel_rfl
theorem c22 : Try.prog.cellsOf 22 = 1 := by kernel_rfl
theorem c45 : Try.prog.cellsOf 45 = 2 := by kernel_rfl
theorem c56 : Try.prog.cellsOf 56 = 2 := by kernel_rfl
theorem c48 : Try.prog.cellsOf 48 = 2 := by kernel_rfl
theorem bytes45 : Try.prog.bytesOf 45 = 24 := by kernel_rfl
theorem bytes56 : Try.prog.bytesOf 56 = 32 := by kernel_rfl
theorem o45 : Opens Try.prog 45 k45 (fun x => x.f1.size ≤ 140737488351232) :=
  Opens.mono (Opens.iso (opens_struct Try.underlying45 (by rw [c45]; simp [c3, c9, c22]) (opensL_cons rfl (opens_int Try.underlying3) (opensL_one (by simp [c3, c9, c22]) (opens_string Try.underlying9)))) (fun x : S45 => (x.f0, x.f1)) (fun p => ⟨p.1, p.2⟩) (fun _ => rfl)) fun _ h => h.2
theorem o22 : Opens Try.prog 22 (Kd.slice 45 k45) StepsFit :=
  Opens.mono (opens_slice Try.underlying22 o45 c45.symm 45) fun l h => ⟨by have := h.2; rw [bytes45] at this; omega, h.1⟩
theorem o56 : Opens Try.prog 56 k56 (fun x => x.f0.size ≤ 140737488351232 ∧ x.f1.size ≤ 140737488351232) :=
  Opens.iso (opens_struct Try.underlying56 (by rw [c56]; simp [c3, c9, c22]) (opensL_cons rfl (opens_string Try.underlying9) (opensL_one (by simp [c3, c9, c22]) (opens_string Try.underlying9)))) (fun x : S56 => (x.f0, x.f1)) (fun p => ⟨p.1, p.2⟩) (fun _ => rfl)
theorem o23 : Opens Try.prog 23 (Kd.slice 56 k56) VarsFit :=
  Opens.mono (opens_slice Try.underlying23 o56 c56.symm 56) fun l h => ⟨by have := h.2; rw [bytes56] at this; omega, h.1⟩
end Go.Proofs.Ytinhlaiogkmkfaa.PA
