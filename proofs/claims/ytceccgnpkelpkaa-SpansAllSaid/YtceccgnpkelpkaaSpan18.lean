/- A part of a proof: functions of the program, walked over the abstract machine. -/
import Derived.Test.YtceccgnpkelpkaaSpan13
import Derived.Test.YtceccgnpkelpkaaSpan17
set_option linter.unusedVariables false
set_option linter.unusedSimpArgs false
namespace Go.Proofs.Ytceccgnpkelpkaa
open Go Go.Am Go.Proofs
theorem Typed.array_inv {P : Program} {t e : TypeId} {n : Nat} {xs : List D} (h : Typed P t xs) (hu : P.underlying t = some (.array n e)) : ∃ xss : List (List D), xs = xss.flatten ∧ xss.length = n ∧ ∀ x ∈ xss, Typed P e x := by
  cases h with
  | bool _ _ h => rw [h] at hu; simp at hu
  | int _ _ _ h => rw [h] at hu; simp at hu
  | str _ _ h => rw [h] at hu; simp at hu
  | slice _ _ _ h => rw [h] at hu; simp at hu
  | struct _ _ _ h => rw [h] at hu; simp at hu
  | array _ n' e' xss h hn hx =>
    rw [h] at hu
    simp only [Option.some.injEq, TypeDesc.array.injEq] at hu
    obtain ⟨rfl, rfl⟩ := hu
    exact ⟨xss, rfl, hn, hx⟩
theorem six_typed {xs : List D} (h : Typed Try.prog 40 xs) : ∃ a : Six, xs = a.row := by
  obtain ⟨xss, rfl, hn, hx⟩ := Typed.array_inv h Try.underlying40
  rcases xss with _ | ⟨a, _ | ⟨b, _ | ⟨c, _ | ⟨d, _ | ⟨e, _ | ⟨f, _ | ⟨g, r⟩⟩⟩⟩⟩⟩⟩
  all_goals try (simp at hn; done)
  obtain ⟨n0, rfl, _⟩ := (hx a (by simp)).int_inv Try.underlying23
  obtain ⟨n1, rfl, _⟩ := (hx b (by simp)).int_inv Try.underlying23
  obtain ⟨n2, rfl, _⟩ := (hx c (by simp)).int_inv Try.underlying23
  obtain ⟨n3, rfl, _⟩ := (hx d (by simp)).int_inv Try.underlying23
  obtain ⟨n4, rfl, _⟩ := (hx e (by simp)).int_inv Try.underlying23
  obtain ⟨n5, rfl, _⟩ := (hx f (by simp)).int_inv Try.underlying23
  exact ⟨⟨n0, n1, n2, n3, n4, n5⟩, rfl⟩
theorem all23_typed {x0 x1 x2 x3 : List D} (y0 : Typed Try.prog 30 x0) (y1 : Typed Try.prog 32 x1) (y2 : Typed Try.prog 33 x2) (y3 : Typed Try.prog 40 x3) :
    Comp Try.prog 5 [argV (aggTy Try.prog 30) x0, argV (aggTy Try.prog 32) x1, argV (aggTy Try.prog 33) x2, argV (aggTy Try.prog 40) x3] (Am.bool true) := by
  have a0 : aggTy Try.prog 30 = false := by unfold aggTy; rw [Try.underlying30]
  have a1 : aggTy Try.prog 32 = true := by unfold aggTy; rw [Try.underlying32]
  have a2 : aggTy Try.prog 33 = false := by unfold aggTy; rw [Try.underlying33]
  have a3 : aggTy Try.prog 40 = true := by unfold aggTy; rw [Try.underlying40]
  obtain ⟨l, rfl, h1, h2⟩ := chains_typed y0
  obtain ⟨d, rfl⟩ := act_typed y1
  obtain ⟨n, rfl, hn⟩ := y2.int_inv Try.underlying33
  obtain ⟨a, rfl⟩ := six_typed y3
  rw [a0, a1, a2, a3]
  cases hf : few23F l 0 with
  | false => exact all23_few l d n a h1 h2 hf
  | true => exact all23 l d n a _ h1 h2 hf rfl (u32_wf hn)
end Go.Proofs.Ytceccgnpkelpkaa
