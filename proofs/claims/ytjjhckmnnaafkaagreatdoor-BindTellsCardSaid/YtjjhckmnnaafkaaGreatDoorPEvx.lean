/- A part of a proof: functions of the program walked over the abstract machine, and what they compute. -/
import Derived.Test.YtjjhckmnnaafkaaGreatDoorPAmEval
import Derived.Test.YtjjhckmnnaafkaaGreatDoorPAmTab
import Derived.Laws.Externs
import Derived.Lib.Bytealg
set_option linter.unusedVariables false
set_option linter.unusedSimpArgs false
set_option maxRecDepth 100000
namespace Go.Proofs.YtjjhckmnnaafkaaGreatDoor
open Go Go.Am Go.Proofs
def anT : AnT := (.node (.node (.node (.node (.node .leaf 6 ⟨[(81, false)], false, false⟩ .leaf) 7 ⟨[(91, false)], false, false⟩ .leaf) 14 ⟨[(49, false)], false, false⟩ (.node .leaf 15 ⟨[(87, false), (93, false)], false, false⟩ .leaf)) 19 ⟨[(52, false)], false, false⟩ (.node (.node (.node .leaf 20 ⟨[(58, false)], false, false⟩ .leaf) 21 ⟨[(71, false), (78, false)], false, false⟩ .leaf) 37 ⟨[(85, false)], false, false⟩ (.node .leaf 40 ⟨[(39, false)], false, false⟩ .leaf))) 41 ⟨[(49, false)], false, false⟩ (.node (.node (.node (.node .leaf 48 ⟨[(37, false), (40, false), (77, false), (92, false)], false, false⟩ .leaf) 50 ⟨[(58, false)], false, false⟩ .leaf) 68 ⟨[(11, false)], false, false⟩ (.node .leaf 70 ⟨[(7, false)], false, false⟩ .leaf)) 71 ⟨[(19, false)], false, false⟩ (.node (.node (.node .leaf 72 ⟨[(35, false)], false, false⟩ .leaf) 82 ⟨[(53, false)], false, false⟩ .leaf) 102 ⟨[(41, true)], false, true⟩ (.node .leaf 111 ⟨[(29, false), (43, false)], false, false⟩ .leaf))))
theorem names : namesOk Tryz.prog = true := by decide +kernel
def xt : Xt := fun f xs => none
theorem xt_ok : XtOk Tryz.prog xt := by
  intro f xs y h w
  unfold xt at h
  simp at h
/-- a function, run: what it gives -/
noncomputable abbrev evT (hk : Hook) (d : Nat) (f : FuncId) (vs : List V) : E (V × St) := evFn Tryz.prog T anT.get xt hk 100000 d f vs []
theorem ev_comp {hk : Hook} (hhk : HookOk Tryz.prog hk) {d : Nat} {f : FuncId} {vs : List V} {v : V} (h : evT hk d f vs = .ok (v, [])) : Comp Tryz.prog f vs v :=
  evFn_sound fits mixed names xt_ok hhk d f vs [] v [] h
theorem ev_val {hk : Hook} (hhk : HookOk Tryz.prog hk) {d : Nat} {f : FuncId} {vs : List V} {v : V} (h : eqE (evT hk d f vs) v = true) : Comp Tryz.prog f vs v := ev_comp hhk (eqE_sound h)
def noHook : Hook := fun _ _ => none
theorem noHook_ok : HookOk Tryz.prog noHook := fun f vs r h => by simp [noHook] at h
end Go.Proofs.YtjjhckmnnaafkaaGreatDoor
