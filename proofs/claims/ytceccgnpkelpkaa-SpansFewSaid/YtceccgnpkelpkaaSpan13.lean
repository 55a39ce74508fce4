/- A part of a proof: functions of the program, walked over the abstract machine. -/
import Derived.Test.YtceccgnpkelpkaaSpan12
set_option linter.unusedVariables false
set_option linter.unusedSimpArgs false
namespace Go.Proofs.Ytceccgnpkelpkaa
open Go Go.Am Go.Proofs
/-! what data of the program's kinds looks like -/
theorem list_typed {α : Type} {f : α → List D} {p : α → Prop} {t : TypeId} : ∀ {rows : List (List D)}, (∀ row ∈ rows, Typed Try.prog t row → ∃ x, row = f x ∧ p x) → (∀ row ∈ rows, Typed Try.prog t row) → ∃ l : List α, rows = l.map f ∧ ∀ x ∈ l, p x
  | [], _, _ => ⟨[], rfl, fun x hx => by simp at hx⟩
  | r :: rows, h, hr => by
    obtain ⟨x, rfl, hx⟩ := h r (by simp) (hr r (by simp))
    obtain ⟨l, rfl, hl⟩ := list_typed (rows := rows) (fun row hrow => h row (by simp [hrow])) fun row hrow => hr row (List.mem_cons_of_mem _ hrow)
    exact ⟨x :: l, rfl, fun y hy => by
      rcases List.mem_cons.1 hy with rfl | hy
      · exact hx
      · exact hl y hy⟩
theorem u32_wf {n : Int} (h : (Lit.int .u32 n).wf = true) : 0 ≤ n ∧ n < 4294967296 := by
  have h1 : IntKind.u32.min ≤ n ∧ n ≤ IntKind.u32.max := by simpa [Lit.wf] using h
  have h2 : IntKind.u32.min = 0 := rfl
  have h3 : IntKind.u32.max = 4294967295 := rfl
  rw [h2, h3] at h1
  omega
theorem u64_wf {n : Int} (h : (Lit.int .u64 n).wf = true) : 0 ≤ n ∧ n < 18446744073709551616 := by
  have h1 : IntKind.u64.min ≤ n ∧ n ≤ IntKind.u64.max := by simpa [Lit.wf] using h
  have h2 : IntKind.u64.min = 0 := rfl
  have h3 : IntKind.u64.max = 18446744073709551615 := rfl
  rw [h2, h3] at h1
  omega
theorem act_typed {xs : List D} (h : Typed Try.prog 32 xs) : ∃ x : Act, xs = x.row := by
  obtain ⟨xss, rfl, hn, hf⟩ := h.struct_inv Try.underlying32
  rcases xss with _ | ⟨a, _ | ⟨b, _ | ⟨c, r⟩⟩⟩
  all_goals try (simp at hn; done)
  obtain ⟨n0, rfl, _⟩ := (hf 0 _ a rfl rfl).int_inv Try.underlying3
  obtain ⟨n1, rfl, _⟩ := (hf 1 _ b rfl rfl).int_inv Try.underlying3
  exact ⟨⟨n0, n1⟩, rfl⟩
theorem half_typed {xs : List D} (h : Typed Try.prog 134 xs) : ∃ x : Half, xs = x.row ∧ True := by
  obtain ⟨xss, rfl, hn, hf⟩ := h.struct_inv Try.underlying134
  rcases xss with _ | ⟨a, _ | ⟨b, _ | ⟨c, _ | ⟨d, _ | ⟨e, _ | ⟨g, r⟩⟩⟩⟩⟩⟩
  all_goals try (simp at hn; done)
  obtain ⟨n0, rfl, _⟩ := (hf 0 _ a rfl rfl).int_inv Try.underlying3
  obtain ⟨n1, rfl, _⟩ := (hf 1 _ b rfl rfl).int_inv Try.underlying3
  obtain ⟨n2, rfl⟩ := (hf 2 _ c rfl rfl).bool_inv Try.underlying4
  obtain ⟨n3, rfl, _⟩ := (hf 3 _ d rfl rfl).int_inv Try.underlying33
  obtain ⟨n4, rfl, _⟩ := (hf 4 _ e rfl rfl).int_inv Try.underlying33
  exact ⟨⟨n0, n1, n2, n3, n4⟩, rfl, trivial⟩
theorem clause_typed {xs : List D} (h : Typed Try.prog 129 xs) : ∃ l : List Half, xs = crow l ∧ l.length < 2 ^ 60 := by
  obtain ⟨rows, rfl, hr, hs⟩ := h.slice_inv Try.underlying129
  obtain ⟨l, rfl, _⟩ := list_typed (fun _ _ h => half_typed h) hr
  have hb : Try.prog.bytesOf 134 = 32 := by kernel_rfl
  rw [hb, List.length_map] at hs
  exact ⟨l, rfl, by have : reachBytes = 140737488351232 := rfl; omega⟩
theorem step_typed {xs : List D} (h : Typed Try.prog 52 xs) : ∃ x : Stp, xs = x.row ∧ x.big := by
  obtain ⟨xss, rfl, hn, hf⟩ := h.struct_inv Try.underlying52
  rcases xss with _ | ⟨a, _ | ⟨b, _ | ⟨c, r⟩⟩⟩
  all_goals try (simp at hn; done)
  obtain ⟨rows, rfl, hr, hs⟩ := (hf 0 _ a rfl rfl).slice_inv Try.underlying50
  obtain ⟨l, rfl, hl⟩ := list_typed (fun _ _ h => clause_typed h) hr
  obtain ⟨a1, rfl⟩ := act_typed (hf 1 _ b rfl rfl)
  have hb : Try.prog.bytesOf 129 = 24 := by kernel_rfl
  rw [hb, List.length_map] at hs
  exact ⟨⟨l, a1⟩, rfl, by simp only; have : reachBytes = 140737488351232 := rfl; omega, hl⟩
theorem steps_typed {xs : List D} (h : Typed Try.prog 41 xs) : ∃ l : List Stp, xs = [.list (l.map Stp.row)] ∧ l.length < 2 ^ 60 ∧ ∀ s ∈ l, s.big := by
  obtain ⟨rows, rfl, hr, hs⟩ := h.slice_inv Try.underlying41
  obtain ⟨l, rfl, hl⟩ := list_typed (fun _ _ h => step_typed h) hr
  have hb : Try.prog.bytesOf 52 = 40 := by kernel_rfl
  rw [hb, List.length_map] at hs
  exact ⟨l, rfl, by have : reachBytes = 140737488351232 := rfl; omega, hl⟩
theorem chain_typed {xs : List D} (h : Typed Try.prog 43 xs) : ∃ x : Chn, xs = x.row ∧ x.big := by
  obtain ⟨xss, rfl, hn, hf⟩ := h.struct_inv Try.underlying43
  rcases xss with _ | ⟨a, _ | ⟨b, _ | ⟨c, r⟩⟩⟩
  all_goals try (simp at hn; done)
  obtain ⟨n0, rfl, w⟩ := (hf 0 _ a rfl rfl).int_inv Try.underlying33
  obtain ⟨l, rfl, h1, h2⟩ := steps_typed (hf 1 _ b rfl rfl)
  exact ⟨⟨n0, l⟩, rfl, u32_wf w, h1, h2⟩
theorem chains_typed {xs : List D} (h : Typed Try.prog 30 xs) : ∃ l : List Chn, xs = [.list (l.map Chn.row)] ∧ l.length * 32 ≤ 2 ^ 47 ∧ ∀ s ∈ l, s.big := by
  obtain ⟨rows, rfl, hr, hs⟩ := h.slice_inv Try.underlying30
  obtain ⟨l, rfl, hl⟩ := list_typed (fun _ _ h => chain_typed h) hr
  have hb : Try.prog.bytesOf 43 = 32 := by kernel_rfl
  rw [hb, List.length_map] at hs
  exact ⟨l, rfl, by have : reachBytes = 140737488351232 := rfl; omega, hl⟩
theorem tell23_typed {x0 x1 x2 : List D} (y0 : Typed Try.prog 30 x0) (y1 : Typed Try.prog 32 x1) (y2 : Typed Try.prog 33 x2) :
    Comp Try.prog 4 [argV (aggTy Try.prog 30) x0, argV (aggTy Try.prog 32) x1, argV (aggTy Try.prog 33) x2] (Am.bool true) := by
  have a0 : aggTy Try.prog 30 = false := by unfold aggTy; rw [Try.underlying30]
  have a1 : aggTy Try.prog 32 = true := by unfold aggTy; rw [Try.underlying32]
  have a2 : aggTy Try.prog 33 = false := by unfold aggTy; rw [Try.underlying33]
  obtain ⟨l, rfl, h1, h2⟩ := chains_typed y0
  obtain ⟨d, rfl⟩ := act_typed y1
  obtain ⟨n, rfl, _⟩ := y2.int_inv Try.underlying33
  rw [a0, a1, a2]
  exact tell23 l d n h1 h2
end Go.Proofs.Ytceccgnpkelpkaa
