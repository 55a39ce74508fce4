/- What the evaluator wants of this seat: notes on functions, and functions without a body. -/
import Derived.Test.YtcplpllbinilmaaAmEval
import Derived.Test.YtcplpllbinilmaaAmTab
import Derived.Laws.Externs
import Derived.Lib.Bytealg
set_option linter.unusedVariables false
set_option linter.unusedSimpArgs false
set_option maxRecDepth 100000
namespace Go.Proofs.Ytcplpllbinilmaa
open Go Go.Am Go.Proofs
def anT : AnT := (.node (.node (.node (.node .leaf 3 ⟨[(24, false)], false, false⟩ .leaf) 5 ⟨[(50, false), (56, false)], false, false⟩ .leaf) 6 ⟨[(26, false)], false, false⟩ (.node .leaf 8 ⟨[(72, false)], false, false⟩ .leaf)) 10 ⟨[(11, true), (14, true), (34, false)], false, false⟩ (.node (.node (.node .leaf 15 ⟨[(40, false)], false, false⟩ .leaf) 39 ⟨[(19, false)], false, false⟩ .leaf) 50 ⟨[(69, false)], false, false⟩ (.node .leaf 73 ⟨[(22, false)], false, false⟩ .leaf)))

theorem names : namesOk Try.prog = true := by decide +kernel
def xt : Xt := fun f xs => none
theorem xt_ok : XtOk Try.prog xt := by
  intro f xs y h w
  unfold xt at h
  simp at h
/-- a function, run: what it gives -/
noncomputable abbrev evT (hk : Hook) (d : Nat) (f : FuncId) (vs : List V) : E (V × St) := evFn Try.prog T anT.get xt hk 100000 d f vs []
theorem ev_comp {hk : Hook} (hhk : HookOk Try.prog hk) {d : Nat} {f : FuncId} {vs : List V} {v : V} (h : evT hk d f vs = .ok (v, [])) : Comp Try.prog f vs v :=
  evFn_sound fits mixed names xt_ok hhk d f vs [] v [] h
def isTrue : E (V × St) → Bool
  | .ok (.one (.d (.sc (.bool true))), []) => true
  | _ => false
theorem ev_true {hk : Hook} (hhk : HookOk Try.prog hk) {d : Nat} {f : FuncId} {vs : List V} (h : isTrue (evT hk d f vs) = true) : Comp Try.prog f vs (bool true) := by
  refine ev_comp hhk (d := d) ?_
  generalize evT hk d f vs = r at h
  unfold isTrue at h
  split at h
  · rfl
  · simp at h
theorem ev_val {hk : Hook} (hhk : HookOk Try.prog hk) {d : Nat} {f : FuncId} {vs : List V} {v : V} (h : eqE (evT hk d f vs) v = true) : Comp Try.prog f vs v := ev_comp hhk (eqE_sound h)
def noHook : Hook := fun _ _ => none
theorem noHook_ok : HookOk Try.prog noHook := fun f vs r h => by simp [noHook] at h
end Go.Proofs.Ytcplpllbinilmaa
