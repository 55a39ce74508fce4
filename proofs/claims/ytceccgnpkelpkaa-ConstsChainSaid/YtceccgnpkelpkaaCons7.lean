/- A part of a proof: functions of the program, walked over the abstract machine. -/
import Derived.Test.YtceccgnpkelpkaaCons6
import Derived.Test.YtceccgnpkelpkaaTy0
set_option linter.unusedVariables false
set_option linter.unusedSimpArgs false
namespace Go.Proofs.Ytceccgnpkelpkaa
open Go Go.Am Go.Proofs
theorem u64s_typed {xs : List D} (h : Typed Try.prog 54 xs) : ∃ l : List Int, xs = [.list (l.map u64row)] ∧ ∀ n ∈ l, 0 ≤ n ∧ n < 18446744073709551616 := by
  obtain ⟨rows, rfl, hr, hs⟩ := h.slice_inv Try.underlying54
  obtain ⟨l, rfl, hl⟩ := list_typed (f := u64row) (p := fun n => 0 ≤ n ∧ n < 18446744073709551616) (fun row _ h => by
    obtain ⟨n, rfl, w⟩ := h.int_inv Try.underlying23
    exact ⟨n, rfl, u64_wf w⟩) hr
  exact ⟨l, rfl, hl⟩
theorem chain14_typed {x0 x1 : List D} (y0 : Typed Try.prog 54 x0) (y1 : Typed Try.prog 3 x1) :
    Comp Try.prog 7 [argV (aggTy Try.prog 54) x0, argV (aggTy Try.prog 3) x1] (Am.bool true) := by
  have a0 : aggTy Try.prog 54 = false := by unfold aggTy; rw [Try.underlying54]
  have a1 : aggTy Try.prog 3 = false := by unfold aggTy; rw [Try.underlying3]
  obtain ⟨l, rfl, hl⟩ := u64s_typed y0
  obtain ⟨n, rfl, hn⟩ := y1.int_inv Try.underlying3
  rw [a0, a1]
  by_cases h1 : l.length < 2
  · exact chain_bad l n (.inl h1)
  by_cases h2 : 12 < l.length
  · exact chain_bad l n (.inr (.inl h2))
  by_cases h3 : n < 0
  · exact chain_bad l n (.inr (.inr (.inl h3)))
  by_cases h4 : (l.length : Int) ≤ n
  · exact chain_bad l n (.inr (.inr (.inr h4)))
  exact chain14 l n h1 h2 h3 h4 hl
end Go.Proofs.Ytceccgnpkelpkaa
