/- What is known of functions, for the evaluator: the library's search, too. -/
import Derived.Test.YtkjlmgfmedehiaaIxs
import Derived.Test.YtkjlmgfmedehiaaHkA
set_option linter.unusedVariables false
set_option linter.unusedSimpArgs false
namespace Go.Proofs.Ytkjlmgfmedehiaa
open Go Go.Am Go.Proofs
set_option linter.unusedVariables false
set_option linter.unusedSimpArgs false
def gIndex : List V → Option V
  | [.one (.d (.sc (.string s))), .one (.d (.sc (.string t)))] => match Nat.blt s.size 4294967281 with
    | true => some (int .i64 (Lib.index s.data.toList t.data.toList))
    | false => none
  | _ => none
theorem gIndex_ok [GVals] : ∀ vs r, gIndex vs = some r → Comp Try.prog 35 vs r := by
  intro vs r h
  unfold gIndex at h
  split at h
  · rename_i s t
    split at h
    · rename_i hs
      injection h with h; subst h
      exact indexR s t (Nat.le_of_ble_eq_true hs)
    · simp at h
  · simp at h
def hkT : Hook := hkOr (hk1 35 gIndex) hkA
theorem hkT_ok [GVals] : HookOk Try.prog hkT := hkOr_ok (hk1_ok gIndex_ok) hkA_ok
end Go.Proofs.Ytkjlmgfmedehiaa
