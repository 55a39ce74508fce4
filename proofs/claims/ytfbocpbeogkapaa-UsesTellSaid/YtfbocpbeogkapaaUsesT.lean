/- A part of a proof: functions of the program, walked over the abstract machine. -/
import Derived.Test.YtfbocpbeogkapaaUses13
import Derived.Test.YtfbocpbeogkapaaTyped
set_option linter.unusedVariables false
set_option linter.unusedSimpArgs false
namespace Go.Proofs.Ytfbocpbeogkapaa
open Go Go.Am Go.Proofs
theorem tell15_typed {x0 x1 : List D} (y0 : Typed Try.prog 39 x0) (y1 : Typed Try.prog 40 x1) :
    Comp Try.prog 6 [argV (aggTy Try.prog 39) x0, argV (aggTy Try.prog 40) x1] (bool true) := by
  have a0 : aggTy Try.prog 39 = false := by unfold aggTy; rw [Try.underlying39]
  have a1 : aggTy Try.prog 40 = false := by unfold aggTy; rw [Try.underlying40]
  obtain ⟨l, rfl, h1, h2⟩ := pols_typed y0
  obtain ⟨n, rfl, _⟩ := strs_typed y1
  rw [a0, a1]
  exact tell15 l n h1 h2
end Go.Proofs.Ytfbocpbeogkapaa
