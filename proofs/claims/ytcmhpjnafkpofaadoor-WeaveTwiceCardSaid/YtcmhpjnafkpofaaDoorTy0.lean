/- What typed data looks like: lists, whole numbers. -/
import Derived.Test.YtcmhpjnafkpofaaDoorBase
set_option linter.unusedVariables false
set_option linter.unusedSimpArgs false
namespace Go.Proofs.YtcmhpjnafkpofaaDoor
open Go Go.Am Go.Proofs
/-! what data of the program's kinds looks like -/
theorem list_typed {α : Type} {f : α → List D} {p : α → Prop} {t : TypeId} : ∀ {rows : List (List D)}, (∀ row ∈ rows, Typed Tryd.prog t row → ∃ x, row = f x ∧ p x) → (∀ row ∈ rows, Typed Tryd.prog t row) → ∃ l : List α, rows = l.map f ∧ ∀ x ∈ l, p x
  | [], _, _ => ⟨[], rfl, fun x hx => by simp at hx⟩
  | r :: rows, h, hr => by
    obtain ⟨x, rfl, hx⟩ := h r (by simp) (hr r (by simp))
    obtain ⟨l, rfl, hl⟩ := list_typed (rows := rows) (fun row hrow => h row (by simp [hrow])) fun row hrow => hr row (List.mem_cons_of_mem _ hrow)
    exact ⟨x :: l, rfl, fun y hy => by
      rcases List.mem_cons.1 hy with rfl | hy
      · exact hx
      · exact hl y hy⟩
theorem u32_wf {n : Int} (h : (Lit.int .u32 n).wf = true) : 0 ≤ n ∧ n < 4294967296 := by
  have h1 : IntKind.u32.min ≤ n ∧ n ≤ IntKind.u32.max := by simpa [Lit.wf] using h
  have h2 : IntKind.u32.min = 0 := rfl
  have h3 : IntKind.u32.max = 4294967295 := rfl
  rw [h2, h3] at h1
  omega
theorem u64_wf {n : Int} (h : (Lit.int .u64 n).wf = true) : 0 ≤ n ∧ n < 18446744073709551616 := by
  have h1 : IntKind.u64.min ≤ n ∧ n ≤ IntKind.u64.max := by simpa [Lit.wf] using h
  have h2 : IntKind.u64.min = 0 := rfl
  have h3 : IntKind.u64.max = 18446744073709551615 := rfl
  rw [h2, h3] at h1
  omega
end Go.Proofs.YtcmhpjnafkpofaaDoor
