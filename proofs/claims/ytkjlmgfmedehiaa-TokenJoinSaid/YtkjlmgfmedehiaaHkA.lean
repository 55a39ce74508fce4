/- What is known of functions, for the evaluator. -/
import Derived.Test.YtkjlmgfmedehiaaEvx
import Derived.Test.YtkjlmgfmedehiaaSp1
set_option linter.unusedVariables false
set_option linter.unusedSimpArgs false
namespace Go.Proofs.Ytkjlmgfmedehiaa
open Go Go.Am Go.Proofs
set_option linter.unusedVariables false
set_option linter.unusedSimpArgs false
def gAt : List V → Option V
  | [.one (.d (.sc (.string s))), .one (.d (.sc (.int .i64 i)))] => match Nat.blt s.size 562949953421312 with
    | true => match atF s i with
      | (y, x) => some (.tup [.one (.d (.sc (.int .i64 y))), .one (.d (.sc (.int .i64 x)))])
    | false => none
  | _ => none
theorem gAt_ok [GVals] : ∀ vs r, gAt vs = some r → Comp Try.prog 17 vs r := by
  intro vs r h
  unfold gAt at h
  split at h
  · rename_i s i
    split at h
    · rename_i hs
      injection h with h; subst h
      exact atRefR s i (Nat.le_of_ble_eq_true hs)
    · simp at h
  · simp at h
def gLet : List V → Option V
  | [.one (.d (.sc (.int .u8 c)))] => some (bool (isLet c))
  | _ => none
theorem gLet_ok [GVals] : ∀ vs r, gLet vs = some r → Comp Try.prog 47 vs r := by
  intro vs r h
  unfold gLet at h
  split at h
  · injection h with h; subst h; exact letR _
  · simp at h
def gDig : List V → Option V
  | [.one (.d (.sc (.int .u8 c)))] => some (bool (isDig c))
  | _ => none
theorem gDig_ok [GVals] : ∀ vs r, gDig vs = some r → Comp Try.prog 48 vs r := by
  intro vs r h
  unfold gDig at h
  split at h
  · injection h with h; subst h; exact digR _
  · simp at h
def gHex : List V → Option V
  | [.one (.d (.sc (.int .u8 c)))] => bif decide (0 ≤ c) && decide (c < 256) then some (int .i64 (hexI c)) else none
  | _ => none
theorem gHex_ok [GVals] : ∀ vs r, gHex vs = some r → Comp Try.prog 69 vs r := by
  intro vs r h
  unfold gHex at h
  split at h
  · rename_i c
    cases hb : decide (0 ≤ c) && decide (c < 256) with
    | true =>
      rw [hb] at h; injection h with h; subst h
      simp only [Bool.and_eq_true, decide_eq_true_eq] at hb
      exact hexR c hb.1 hb.2
    | false => rw [hb] at h; simp at h
  · simp at h
def hkA : Hook := hkOr (hk1 17 gAt) (hkOr (hk1 47 gLet) (hkOr (hk1 48 gDig) (hk1 69 gHex)))
theorem hkA_ok [GVals] : HookOk Try.prog hkA := hkOr_ok (hk1_ok gAt_ok) (hkOr_ok (hk1_ok gLet_ok) (hkOr_ok (hk1_ok gDig_ok) (hk1_ok gHex_ok)))
end Go.Proofs.Ytkjlmgfmedehiaa
