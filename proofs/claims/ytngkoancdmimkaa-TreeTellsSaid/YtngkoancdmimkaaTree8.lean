/- A part of a proof: functions of the program, walked over the abstract machine. -/
import Derived.Test.YtngkoancdmimkaaTree7
set_option linter.unusedVariables false
set_option linter.unusedSimpArgs false
namespace Go.Proofs.Ytngkoancdmimkaa
open Go Go.Am Go.Proofs
theorem def_typed {xs : List D} (h : Typed Try.prog 57 xs) : ∃ x : Def, xs = x.row ∧ True := by
  obtain ⟨xss, rfl, hn, hf⟩ := h.struct_inv Try.underlying57
  rcases xss with _ | ⟨a, _ | ⟨b, _ | ⟨c, r⟩⟩⟩
  all_goals try (simp at hn; done)
  obtain ⟨s0, rfl, _⟩ := str_typed (hf 0 _ a rfl rfl)
  obtain ⟨e, rfl, _⟩ := ex_typed _ (Nat.lt_succ_self _) (hf 1 _ b rfl rfl)
  exact ⟨⟨s0, e⟩, by simp [Def.row, strow], trivial⟩
theorem un_typed {xs : List D} (h : Typed Try.prog 41 xs) : ∃ u : Un, xs.map Cell.d = u.cells := by
  obtain ⟨xss, rfl, hn, hf⟩ := h.struct_inv Try.underlying41
  rcases xss with _ | ⟨a, _ | ⟨b, _ | ⟨c, _ | ⟨d, _ | ⟨e, r⟩⟩⟩⟩⟩
  all_goals try (simp at hn; done)
  obtain ⟨rows, rfl, hr, _⟩ := (hf 0 _ a rfl rfl).slice_inv Try.underlying39
  obtain ⟨ds, rfl, _⟩ := list_typed (fun _ _ h => def_typed h) hr
  obtain ⟨ps, rfl, _, _⟩ := pols_typed (hf 1 _ b rfl rfl)
  obtain ⟨ms, rfl, _⟩ := strs_typed (hf 2 _ c rfl rfl)
  obtain ⟨a1, rfl⟩ := act_typed (hf 3 _ d rfl rfl)
  exact ⟨⟨ds, ps, ms, a1⟩, rfl⟩
theorem tells11_typed {x0 x1 x2 x3 : List D} (y0 : Typed Try.prog 9 x0) (y1 : Typed Try.prog 26 x1) (y2 : Typed Try.prog 41 x2) (y3 : Typed Try.prog 41 x3) :
    Comp Try.prog 4 [argV (aggTy Try.prog 9) x0, argV (aggTy Try.prog 26) x1, argV (aggTy Try.prog 41) x2, argV (aggTy Try.prog 41) x3] (Am.bool true) := by
  have a0 : aggTy Try.prog 9 = false := by unfold aggTy; rw [Try.underlying9]
  have a1 : aggTy Try.prog 26 = true := by unfold aggTy; rw [Try.underlying26]
  have a2 : aggTy Try.prog 41 = true := by unfold aggTy; rw [Try.underlying41]
  obtain ⟨s, rfl, _⟩ := str_typed y0
  obtain ⟨e, rfl, _⟩ := ex_typed _ (Nat.lt_succ_self _) y1
  obtain ⟨u, hu⟩ := un_typed y2
  obtain ⟨v, hv⟩ := un_typed y3
  rw [a0, a1, a2]
  simp only [argV, cond_true, hu, hv]
  exact tells11 s e u v
end Go.Proofs.Ytngkoancdmimkaa
