/- A part of a proof: functions of the program, walked over the abstract machine. -/
import Derived.Test.YtfbocpbeogkapaaInstr6
import Derived.Test.YtfbocpbeogkapaaAmLaw
set_option linter.unusedVariables false
set_option linter.unusedSimpArgs false
namespace Go.Proofs.Ytfbocpbeogkapaa
open Go Go.Am Go.Proofs
theorem one_typed {x0 x1 x2 x3 x4 : List D} (y0 : Typed Try.prog 3 x0) (y1 : Typed Try.prog 3 x1) (y2 : Typed Try.prog 3 x2) (y3 : Typed Try.prog 34 x3) (y4 : Typed Try.prog 3 x4) :
    Comp Try.prog 4 [argV (aggTy Try.prog 3) x0, argV (aggTy Try.prog 3) x1, argV (aggTy Try.prog 3) x2, argV (aggTy Try.prog 34) x3, argV (aggTy Try.prog 3) x4] (bool true) := by
  have a3 : aggTy Try.prog 3 = false := by unfold aggTy; rw [Try.underlying3]
  have a34 : aggTy Try.prog 34 = false := by unfold aggTy; rw [Try.underlying34]
  obtain ⟨n0, rfl, _⟩ := y0.int_inv Try.underlying3
  obtain ⟨n1, rfl, _⟩ := y1.int_inv Try.underlying3
  obtain ⟨n2, rfl, _⟩ := y2.int_inv Try.underlying3
  obtain ⟨n3, rfl, w3⟩ := y3.int_inv Try.underlying34
  obtain ⟨n4, rfl, _⟩ := y4.int_inv Try.underlying3
  rw [a3, a34]
  have hk : 0 ≤ n3 ∧ n3 < 4294967296 := by
    simp [Lit.wf, IntKind.min, IntKind.max, IntKind.signed, IntKind.bits] at w3; omega
  exact one n0 n1 n2 n3 n4 hk
end Go.Proofs.Ytfbocpbeogkapaa
