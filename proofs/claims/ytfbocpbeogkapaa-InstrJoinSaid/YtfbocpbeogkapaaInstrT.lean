/- A part of a proof: functions of the program, walked over the abstract machine. -/
import Derived.Test.YtfbocpbeogkapaaInstr4
import Derived.Test.YtfbocpbeogkapaaAmLaw
set_option linter.unusedVariables false
set_option linter.unusedSimpArgs false
namespace Go.Proofs.Ytfbocpbeogkapaa
open Go Go.Am Go.Proofs
theorem list_typed {α : Type} {f : α → List D} {p : α → Prop} {t : TypeId} (h : ∀ {xs}, Typed Try.prog t xs → ∃ x, xs = f x ∧ p x) : ∀ {rows : List (List D)}, (∀ row ∈ rows, Typed Try.prog t row) → ∃ l : List α, rows = l.map f ∧ ∀ x ∈ l, p x
  | [], _ => ⟨[], rfl, fun x hx => by simp at hx⟩
  | r :: rows, hr => by
    obtain ⟨x, rfl, hx⟩ := h (hr r (by simp))
    obtain ⟨l, rfl, hl⟩ := list_typed (rows := rows) h fun row hrow => hr row (List.mem_cons_of_mem _ hrow)
    exact ⟨x :: l, rfl, fun y hy => by
      rcases List.mem_cons.1 hy with rfl | hy
      · exact hx
      · exact hl y hy⟩
theorem ins_typed {xs : List D} (h : Typed Try.prog 36 xs) : ∃ x : Ins, xs = x.row ∧ x.ok := by
  obtain ⟨xss, rfl, hn, hf⟩ := h.struct_inv Try.underlying36
  rcases xss with _ | ⟨a, _ | ⟨b, _ | ⟨c, _ | ⟨d, _ | ⟨e, r⟩⟩⟩⟩⟩
  all_goals try (simp at hn; done)
  obtain ⟨n0, rfl, _⟩ := (hf 0 _ a rfl rfl).int_inv Try.underlying3
  obtain ⟨n1, rfl, _⟩ := (hf 1 _ b rfl rfl).int_inv Try.underlying3
  obtain ⟨n2, rfl, _⟩ := (hf 2 _ c rfl rfl).int_inv Try.underlying3
  obtain ⟨n3, rfl, w3⟩ := (hf 3 _ d rfl rfl).int_inv Try.underlying34
  refine ⟨⟨n0, n1, n2, n3⟩, rfl, ?_⟩
  simp [Lit.wf, IntKind.min, IntKind.max, IntKind.signed, IntKind.bits] at w3
  simp only [Ins.ok]; omega
theorem u8_typed {xs : List D} (h : Typed Try.prog 5 xs) : ∃ b : UInt8, xs = u8row b ∧ True := by
  obtain ⟨n, rfl, w⟩ := h.int_inv Try.underlying5
  simp [Lit.wf, IntKind.min, IntKind.max, IntKind.signed, IntKind.bits] at w
  refine ⟨u8 n, ?_, trivial⟩
  unfold u8row
  rw [u8_toNat, Int.emod_eq_of_lt (by omega) (by omega)]
theorem inss_typed {xs : List D} (h : Typed Try.prog 22 xs) : ∃ l : List Ins, argV (aggTy Try.prog 22) xs = lst Ins.row l ∧ (∀ x ∈ l, x.ok) ∧ l.length < 2 ^ 43 := by
  obtain ⟨rows, rfl, hr, hs⟩ := h.slice_inv Try.underlying22
  obtain ⟨l, rfl, hl⟩ := list_typed ins_typed hr
  have hb : Try.prog.bytesOf 36 = 32 := by kernel_rfl
  rw [hb, List.length_map] at hs
  refine ⟨l, ?_, hl, ?_⟩
  · unfold aggTy; rw [Try.underlying22]; rfl
  · have : reachBytes = 140737488351232 := rfl
    omega
theorem bytes_typed {xs : List D} (h : Typed Try.prog 23 xs) : ∃ l : List UInt8, argV (aggTy Try.prog 23) xs = bytesV l := by
  obtain ⟨rows, rfl, hr, hs⟩ := h.slice_inv Try.underlying23
  obtain ⟨l, rfl, hl⟩ := list_typed u8_typed hr
  exact ⟨l, by unfold aggTy; rw [Try.underlying23]; rfl⟩
theorem tells_typed {x0 x1 : List D} (y0 : Typed Try.prog 22 x0) (y1 : Typed Try.prog 23 x1) :
    Comp Try.prog 3 [argV (aggTy Try.prog 22) x0, argV (aggTy Try.prog 23) x1] (bool true) := by
  obtain ⟨l, h1, h2, _⟩ := inss_typed y0
  obtain ⟨b, h3⟩ := bytes_typed y1
  rw [h1, h3]; exact tells l b h2
end Go.Proofs.Ytfbocpbeogkapaa
