/- The reader of policies, for the evaluator: what it gives of the texts that occur. -/
import Derived.Test.YtkjlmgfmedehiaaRd0
import Derived.Test.YtkjlmgfmedehiaaRd1
import Derived.Test.YtkjlmgfmedehiaaRd2
import Derived.Test.YtkjlmgfmedehiaaRd3
import Derived.Test.YtkjlmgfmedehiaaRd4
import Derived.Test.YtkjlmgfmedehiaaRd5
import Derived.Test.YtkjlmgfmedehiaaRd6
import Derived.Test.YtkjlmgfmedehiaaRd7
set_option linter.unusedVariables false
namespace Go.Proofs.Ytkjlmgfmedehiaa
open Go Go.Am Go.Proofs
def gFind (s : ByteArray) : List (ByteArray × V) → Option V
  | [] => none
  | (t, v) :: r => match eqBytes t s with
    | true => some v
    | false => gFind s r
theorem eqBytes_sound {a b : ByteArray} (h : eqBytes a b = true) : a = b := by
  simp only [eqBytes, decide_eq_true_eq] at h
  obtain ⟨⟨a⟩⟩ := a; obtain ⟨⟨b⟩⟩ := b
  simp only at h; rw [h]
theorem gFind_ok {s : ByteArray} : ∀ {l : List (ByteArray × V)} {v : V}, (∀ p ∈ l, Comp Try.prog 10 [.one (.d (.sc (.string p.1)))] p.2) → gFind s l = some v → Comp Try.prog 10 [.one (.d (.sc (.string s)))] v
  | [], v, _, h => by simp [gFind] at h
  | (t, u) :: r, v, hl, h => by
    simp only [gFind] at h
    split at h
    · rename_i he
      injection h with h; subst h
      have := hl (t, u) (by simp)
      rw [← eqBytes_sound he]; exact this
    · exact gFind_ok (fun p hp => hl p (by simp [hp])) h
def rdTab : List (ByteArray × V) := [(rx0, rv0), (rx1, rv1), (rx2, rv2), (rx3, rv3), (rx4, rv4), (rx5, rv5), (rx6, rv6), (rx7, rv7), (rx8, rv8), (rx9, rv9), (rx10, rv10), (rx11, rv11), (rx12, rv12), (rx13, rv13), (rx14, rv14), (rx15, rv15), (rx16, rv16), (rx17, rv17), (rx18, rv18), (rx19, rv19), (rx20, rv20), (rx21, rv21), (rx22, rv22), (rx23, rv23), (rx24, rv24)]
theorem rdTab_ok : ∀ p ∈ rdTab, Comp Try.prog 10 [.one (.d (.sc (.string p.1)))] p.2 := by
  unfold rdTab
  refine List.forall_mem_cons.2 ⟨rd0, ?_⟩
  refine List.forall_mem_cons.2 ⟨rd1, ?_⟩
  refine List.forall_mem_cons.2 ⟨rd2, ?_⟩
  refine List.forall_mem_cons.2 ⟨rd3, ?_⟩
  refine List.forall_mem_cons.2 ⟨rd4, ?_⟩
  refine List.forall_mem_cons.2 ⟨rd5, ?_⟩
  refine List.forall_mem_cons.2 ⟨rd6, ?_⟩
  refine List.forall_mem_cons.2 ⟨rd7, ?_⟩
  refine List.forall_mem_cons.2 ⟨rd8, ?_⟩
  refine List.forall_mem_cons.2 ⟨rd9, ?_⟩
  refine List.forall_mem_cons.2 ⟨rd10, ?_⟩
  refine List.forall_mem_cons.2 ⟨rd11, ?_⟩
  refine List.forall_mem_cons.2 ⟨rd12, ?_⟩
  refine List.forall_mem_cons.2 ⟨rd13, ?_⟩
  refine List.forall_mem_cons.2 ⟨rd14, ?_⟩
  refine List.forall_mem_cons.2 ⟨rd15, ?_⟩
  refine List.forall_mem_cons.2 ⟨rd16, ?_⟩
  refine List.forall_mem_cons.2 ⟨rd17, ?_⟩
  refine List.forall_mem_cons.2 ⟨rd18, ?_⟩
  refine List.forall_mem_cons.2 ⟨rd19, ?_⟩
  refine List.forall_mem_cons.2 ⟨rd20, ?_⟩
  refine List.forall_mem_cons.2 ⟨rd21, ?_⟩
  refine List.forall_mem_cons.2 ⟨rd22, ?_⟩
  refine List.forall_mem_cons.2 ⟨rd23, ?_⟩
  refine List.forall_mem_cons.2 ⟨rd24, ?_⟩
  intro p hp; cases hp
def gRead : List V → Option V
  | [.one (.d (.sc (.string s)))] => gFind s rdTab
  | _ => none
theorem gRead_ok : ∀ vs r, gRead vs = some r → Comp Try.prog 10 vs r := by
  intro vs r h
  unfold gRead at h
  split at h
  · exact gFind_ok rdTab_ok h
  · simp at h
def hkB : Hook := hkOr (hk1 10 gRead) hkA
theorem hkB_ok : HookOk Try.prog hkB := hkOr_ok (hk1_ok gRead_ok) hkA_ok
end Go.Proofs.Ytkjlmgfmedehiaa
