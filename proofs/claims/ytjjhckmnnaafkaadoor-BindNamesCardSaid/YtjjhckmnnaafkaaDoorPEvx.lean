/- A part of a proof: functions of the program walked over the abstract machine, and what they compute. -/
import Derived.Test.YtjjhckmnnaafkaaDoorPAmEval
import Derived.Test.YtjjhckmnnaafkaaDoorPAmTab
import Derived.Laws.Externs
import Derived.Lib.Bytealg
set_option linter.unusedVariables false
set_option linter.unusedSimpArgs false
set_option maxRecDepth 100000
namespace Go.Proofs.YtjjhckmnnaafkaaDoor
open Go Go.Am Go.Proofs
def anT : AnT := (.node (.node (.node (.node .leaf 3 ⟨[(146, false), (148, false)], false, false⟩ .leaf) 7 ⟨[(81, false)], false, false⟩ (.node .leaf 11 ⟨[(53, false)], false, false⟩ .leaf)) 17 ⟨[(49, false)], false, false⟩ (.node (.node .leaf 18 ⟨[(87, false), (93, false)], false, false⟩ .leaf) 33 ⟨[(85, false)], false, false⟩ (.node .leaf 36 ⟨[(39, false)], false, false⟩ .leaf))) 37 ⟨[(49, false)], false, false⟩ (.node (.node (.node .leaf 54 ⟨[(11, false)], false, false⟩ .leaf) 56 ⟨[(7, false)], false, false⟩ (.node .leaf 57 ⟨[(19, false)], false, false⟩ .leaf)) 58 ⟨[(35, false)], false, false⟩ (.node (.node .leaf 80 ⟨[(41, true)], false, true⟩ .leaf) 88 ⟨[(29, false), (43, false)], false, false⟩ .leaf)))
theorem names : namesOk Tryd.prog = true := by decide +kernel
def xt : Xt := fun f xs => none
theorem xt_ok : XtOk Tryd.prog xt := by
  intro f xs y h w
  unfold xt at h
  simp at h
/-- a function, run: what it gives -/
noncomputable abbrev evT (hk : Hook) (d : Nat) (f : FuncId) (vs : List V) : E (V × St) := evFn Tryd.prog T anT.get xt hk 100000 d f vs []
theorem ev_comp {hk : Hook} (hhk : HookOk Tryd.prog hk) {d : Nat} {f : FuncId} {vs : List V} {v : V} (h : evT hk d f vs = .ok (v, [])) : Comp Tryd.prog f vs v :=
  evFn_sound fits mixed names xt_ok hhk d f vs [] v [] h
theorem ev_val {hk : Hook} (hhk : HookOk Tryd.prog hk) {d : Nat} {f : FuncId} {vs : List V} {v : V} (h : eqE (evT hk d f vs) v = true) : Comp Tryd.prog f vs v := ev_comp hhk (eqE_sound h)
def noHook : Hook := fun _ _ => none
theorem noHook_ok : HookOk Tryd.prog noHook := fun f vs r h => by simp [noHook] at h
end Go.Proofs.YtjjhckmnnaafkaaDoor
