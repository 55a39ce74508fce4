/- The laws' example of tokens holds. -/
import Derived.Test.YtkjlmgfmedehiaaHkT
set_option linter.unusedVariables false
set_option linter.unusedSimpArgs false
namespace Go.Proofs.Ytkjlmgfmedehiaa
open Go Go.Am Go.Proofs
attribute [local irreducible] W WL DL WO RoundEnd
set_option maxRecDepth 100000
set_option maxHeartbeats 4000000
theorem alive9 [GVals] : Comp Try.prog 13 [] (Am.bool true) := ev_true hkT_ok (d := 200) (by kernel_rfl)
end Go.Proofs.Ytkjlmgfmedehiaa
