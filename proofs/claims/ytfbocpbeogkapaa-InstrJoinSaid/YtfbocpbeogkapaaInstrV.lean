/- A part of a proof: functions of the program, walked over the abstract machine. -/
import Derived.Test.YtfbocpbeogkapaaInstr5
import Derived.Test.YtfbocpbeogkapaaInstrT
set_option linter.unusedVariables false
set_option linter.unusedSimpArgs false
namespace Go.Proofs.Ytfbocpbeogkapaa
open Go Go.Am Go.Proofs
theorem join_typed {x0 x1 : List D} (y0 : Typed Try.prog 22 x0) (y1 : Typed Try.prog 22 x1) :
    Comp Try.prog 5 [argV (aggTy Try.prog 22) x0, argV (aggTy Try.prog 22) x1] (bool true) := by
  obtain ⟨l, h1, h2, h3⟩ := inss_typed y0
  obtain ⟨m, g1, g2, g3⟩ := inss_typed y1
  rw [h1, g1]; exact join l m h2 g2 h3 g3
end Go.Proofs.Ytfbocpbeogkapaa
