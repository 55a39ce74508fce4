/- What the evaluator wants of this seat: notes on functions, and functions without a body. -/
import Derived.Test.YtcmhpjnafkpofaaDoorAmEval
import Derived.Test.YtcmhpjnafkpofaaDoorAmTab
import Derived.Laws.Externs
import Derived.Lib.Bytealg
set_option linter.unusedVariables false
set_option linter.unusedSimpArgs false
set_option maxRecDepth 100000
namespace Go.Proofs.YtcmhpjnafkpofaaDoor
open Go Go.Am Go.Proofs
def anT : AnT := (.node (.node (.node (.node .leaf 5 ⟨[(31, false)], false, false⟩ .leaf) 6 ⟨[(106, false), (108, false), (110, false)], false, false⟩ (.node .leaf 7 ⟨[(68, false)], false, false⟩ .leaf)) 10 ⟨[(32, false)], false, false⟩ (.node (.node .leaf 15 ⟨[(26, false), (29, false)], false, false⟩ .leaf) 22 ⟨[(67, false)], false, false⟩ .leaf)) 25 ⟨[(19, false), (25, false)], false, false⟩ (.node (.node (.node .leaf 26 ⟨[(31, false)], false, false⟩ .leaf) 31 ⟨[(35, false), (68, false)], false, false⟩ .leaf) 32 ⟨[(62, false), (153, false), (156, false), (166, false)], false, false⟩ (.node (.node .leaf 39 ⟨[(14, false)], false, false⟩ .leaf) 75 ⟨[(25, false)], false, false⟩ .leaf)))

theorem names : namesOk Tryd.prog = true := by decide +kernel
def xAdd : List Value → Option Value
  | [.int .u64 x, .int .u64 y, .int .u64 c] => bif (decide (0 ≤ x) && decide (0 ≤ y)) && (decide (0 ≤ c) && decide (c ≤ 1)) then some (.tuple #[.int .u64 ((x + y + c) % 18446744073709551616), .int .u64 ((x + y + c) / 18446744073709551616)]) else none
  | _ => none
theorem xAdd_ok : ∀ xs y, xAdd xs = some y → ∀ w, (callFunc 90 xs.toArray).run Tryd.prog w = .ok (.value y) w := by
  intro xs y h w
  unfold xAdd at h
  split at h
  · rename_i a b c
    cases hb : (decide (0 ≤ a) && decide (0 ≤ b)) && (decide (0 ≤ c) && decide (c ≤ 1)) with
    | false => rw [hb] at h; simp at h
    | true =>
      rw [hb] at h; simp only [cond_true, Option.some.injEq] at h; subst h
      simp only [Bool.and_eq_true, decide_eq_true_eq] at hb
      obtain ⟨⟨h1, h2⟩, h3, h4⟩ := hb
      rw [run_callFunc_extern Tryd.func90 (by kernel_rfl) (by kernel_rfl) (by kernel_rfl) (e := add64Entry) (by kernel_rfl), run_add64 a b c h1 h2 h3 h4]
      rfl
  · simp at h
def xCount : List Value → Option Value
  | [.string s, .int .u8 c] => some (.int .i64 (Lib.countByte s.data.toList c.toNat.toUInt8))
  | _ => none
theorem xCount_ok : ∀ xs y, xCount xs = some y → ∀ w, (callFunc 65 xs.toArray).run Tryd.prog w = .ok (.value y) w := by
  intro xs y h w
  unfold xCount at h
  split at h
  · injection h with h; subst h
    rw [run_callFunc_extern Tryd.func65 (by kernel_rfl) (by kernel_rfl) (by kernel_rfl) (e := Extern.BytealgCount.count) (by kernel_rfl), Lib.run_countString]
    rfl
  · simp at h
def xIndexB : List Value → Option Value
  | [.string s, .int .u8 c] => some (.int .i64 (Lib.indexByte s.data.toList c.toNat.toUInt8))
  | _ => none
theorem xIndexB_ok : ∀ xs y, xIndexB xs = some y → ∀ w, (callFunc 94 xs.toArray).run Tryd.prog w = .ok (.value y) w := by
  intro xs y h w
  unfold xIndexB at h
  split at h
  · injection h with h; subst h
    rw [run_callFunc_extern Tryd.func94 (by kernel_rfl) (by kernel_rfl) (by kernel_rfl) (e := Extern.BytealgIndexByte.indexByte) (by kernel_rfl), Lib.run_indexByteString]
    rfl
  · simp at h
def xt : Xt := fun f xs => bif Nat.beq f 90 then xAdd xs else bif Nat.beq f 65 then xCount xs else bif Nat.beq f 94 then xIndexB xs else none
theorem xt_ok [GVals] : XtOk Tryd.prog xt := by
  intro f xs y h w
  unfold xt at h
  cases hxAdd : Nat.beq f 90 with
  | true =>
    rw [hxAdd] at h
    have hf := Nat.eq_of_beq_eq_true hxAdd
    subst hf
    exact xAdd_ok _ _ h w
  | false =>
  rw [hxAdd, cond_false] at h
  cases hxCount : Nat.beq f 65 with
  | true =>
    rw [hxCount] at h
    have hf := Nat.eq_of_beq_eq_true hxCount
    subst hf
    exact xCount_ok _ _ h w
  | false =>
  rw [hxCount, cond_false] at h
  cases hxIndexB : Nat.beq f 94 with
  | true =>
    rw [hxIndexB] at h
    have hf := Nat.eq_of_beq_eq_true hxIndexB
    subst hf
    exact xIndexB_ok _ _ h w
  | false =>
  rw [hxIndexB, cond_false] at h
  simp at h
/-- a function, run: what it gives -/
noncomputable abbrev evT [GVals] (hk : Hook) (d : Nat) (f : FuncId) (vs : List V) : E (V × St) := evFn Tryd.prog T anT.get xt hk 100000 d f vs []
theorem ev_comp [GVals] {hk : Hook} (hhk : HookOk Tryd.prog hk) {d : Nat} {f : FuncId} {vs : List V} {v : V} (h : evT hk d f vs = .ok (v, [])) : Comp Tryd.prog f vs v :=
  evFn_sound fits mixed names xt_ok hhk d f vs [] v [] h
def isTrue : E (V × St) → Bool
  | .ok (.one (.d (.sc (.bool true))), []) => true
  | _ => false
theorem ev_true [GVals] {hk : Hook} (hhk : HookOk Tryd.prog hk) {d : Nat} {f : FuncId} {vs : List V} (h : isTrue (evT hk d f vs) = true) : Comp Tryd.prog f vs (bool true) := by
  refine ev_comp hhk (d := d) ?_
  generalize evT hk d f vs = r at h
  unfold isTrue at h
  split at h
  · rfl
  · simp at h
theorem ev_val [GVals] {hk : Hook} (hhk : HookOk Tryd.prog hk) {d : Nat} {f : FuncId} {vs : List V} {v : V} (h : eqE (evT hk d f vs) v = true) : Comp Tryd.prog f vs v := ev_comp hhk (eqE_sound h)
def noHook : Hook := fun _ _ => none
theorem noHook_ok [GVals] : HookOk Tryd.prog noHook := fun f vs r h => by simp [noHook] at h
end Go.Proofs.YtcmhpjnafkpofaaDoor
