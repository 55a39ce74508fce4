/- A part of a proof: functions of the program, walked over the abstract machine. -/
import Derived.Test.YtngkoancdmimkaaFew2
import Derived.Test.YtngkoancdmimkaaUses2
set_option linter.unusedVariables false
set_option linter.unusedSimpArgs false
namespace Go.Proofs.Ytngkoancdmimkaa
open Go Go.Am Go.Proofs
/-! what data of the program's kinds looks like -/
theorem list_typed {α : Type} {f : α → List D} {p : α → Prop} {t : TypeId} : ∀ {rows : List (List D)}, (∀ row ∈ rows, Typed Try.prog t row → ∃ x, row = f x ∧ p x) → (∀ row ∈ rows, Typed Try.prog t row) → ∃ l : List α, rows = l.map f ∧ ∀ x ∈ l, p x
  | [], _, _ => ⟨[], rfl, fun x hx => by simp at hx⟩
  | r :: rows, h, hr => by
    obtain ⟨x, rfl, hx⟩ := h r (by simp) (hr r (by simp))
    obtain ⟨l, rfl, hl⟩ := list_typed (rows := rows) (fun row hrow => h row (by simp [hrow])) fun row hrow => hr row (List.mem_cons_of_mem _ hrow)
    exact ⟨x :: l, rfl, fun y hy => by
      rcases List.mem_cons.1 hy with rfl | hy
      · exact hx
      · exact hl y hy⟩
theorem str_typed {xs : List D} (h : Typed Try.prog 9 xs) : ∃ s : ByteArray, xs = strow s ∧ s.size < 2 ^ 47 := by
  obtain ⟨s, rfl, hs⟩ := h.str_inv Try.underlying9
  exact ⟨s, rfl, by have : reachBytes = 140737488351232 := rfl; omega⟩
theorem strs_typed {xs : List D} (h : Typed Try.prog 29 xs) : ∃ l : List ByteArray, xs = [.list (l.map strow)] ∧ l.length * 16 ≤ 2 ^ 47 := by
  obtain ⟨rows, rfl, hr, hs⟩ := h.slice_inv Try.underlying29
  obtain ⟨l, rfl, hl⟩ := list_typed (fun _ _ h => str_typed h) hr
  have hb : Try.prog.bytesOf 9 = 16 := by kernel_rfl
  rw [hb, List.length_map] at hs
  exact ⟨l, rfl, by have : reachBytes = 140737488351232 := rfl; omega⟩
theorem ex_typed : ∀ (n : Nat) {xs : List D}, SizeOf.sizeOf xs < n → Typed Try.prog 26 xs → ∃ x : Ex, xs = x.row ∧ x.ok := by
  intro n
  induction n with
  | zero => intro xs h; omega
  | succ n IH =>
  intro xs hsz h
  obtain ⟨xss, rfl, hn, hf⟩ := h.struct_inv Try.underlying26
  rcases xss with _ | ⟨a, _ | ⟨b, _ | ⟨c, _ | ⟨d, _ | ⟨e, _ | ⟨g, r⟩⟩⟩⟩⟩⟩
  all_goals try (simp at hn; done)
  obtain ⟨n0, rfl, _⟩ := (hf 0 _ a rfl rfl).int_inv Try.underlying3
  obtain ⟨s1, rfl, _⟩ := (hf 1 _ b rfl rfl).str_inv Try.underlying9
  obtain ⟨s2, rfl, _⟩ := (hf 2 _ c rfl rfl).str_inv Try.underlying9
  obtain ⟨n3, rfl, _⟩ := (hf 3 _ d rfl rfl).int_inv Try.underlying23
  obtain ⟨rows, rfl, hr, hs⟩ := (hf 4 _ e rfl rfl).slice_inv Try.underlying24
  have hb : Try.prog.bytesOf 26 = 72 := by kernel_rfl
  rw [hb] at hs
  obtain ⟨l, rfl, hl⟩ := list_typed (f := Ex.row) (p := Ex.ok) (fun row hrow ht => by
    refine IH ?_ ht
    have h1 := List.sizeOf_lt_of_mem hrow
    simp at hsz
    omega) hr
  rw [List.length_map] at hs
  refine ⟨.mk n0 s1 s2 n3 l, by simp [Ex.row, Ex.rows_eq], by have : reachBytes = 140737488351232 := rfl; omega, ?_⟩
  clear hs hr hf hsz h hn
  induction l with
  | nil => trivial
  | cons x l ih => exact ⟨hl x (by simp), ih fun y hy => hl y (by simp [hy])⟩
theorem exs_typed {xs : List D} (h : Typed Try.prog 24 xs) : ∃ l : List Ex, xs = [.list (l.map Ex.row)] ∧ l.length * 72 ≤ 2 ^ 47 ∧ Ex.oks l := by
  obtain ⟨rows, rfl, hr, hs⟩ := h.slice_inv Try.underlying24
  obtain ⟨l, rfl, hl⟩ := list_typed (fun _ _ h => ex_typed _ (Nat.lt_succ_self _) h) hr
  have hb : Try.prog.bytesOf 26 = 72 := by kernel_rfl
  rw [hb, List.length_map] at hs
  refine ⟨l, rfl, by have : reachBytes = 140737488351232 := rfl; omega, ?_⟩
  clear hs hr h
  induction l with
  | nil => trivial
  | cons x l ih => exact ⟨hl x (by simp), ih fun y hy => hl y (by simp [hy])⟩
theorem rule_typed {xs : List D} (h : Typed Try.prog 31 xs) : ∃ x : Rule, xs = x.row ∧ x.ok := by
  obtain ⟨xss, rfl, hn, hf⟩ := h.struct_inv Try.underlying31
  rcases xss with _ | ⟨a, _ | ⟨b, _ | ⟨c, _ | ⟨d, r⟩⟩⟩⟩
  all_goals try (simp at hn; done)
  obtain ⟨s0, rfl, _⟩ := str_typed (hf 0 _ a rfl rfl)
  obtain ⟨l1, rfl, h1⟩ := strs_typed (hf 1 _ b rfl rfl)
  obtain ⟨l2, rfl, h2⟩ := exs_typed (hf 2 _ c rfl rfl)
  exact ⟨⟨s0, l1, l2⟩, rfl, h1, h2⟩
theorem act_typed {xs : List D} (h : Typed Try.prog 28 xs) : ∃ x : Act, xs = x.row := by
  obtain ⟨xss, rfl, hn, hf⟩ := h.struct_inv Try.underlying28
  rcases xss with _ | ⟨a, _ | ⟨b, _ | ⟨c, r⟩⟩⟩
  all_goals try (simp at hn; done)
  obtain ⟨n0, rfl, _⟩ := (hf 0 _ a rfl rfl).int_inv Try.underlying3
  obtain ⟨n1, rfl, _⟩ := (hf 1 _ b rfl rfl).int_inv Try.underlying3
  exact ⟨⟨n0, n1⟩, rfl⟩
theorem part_typed {xs : List D} (h : Typed Try.prog 34 xs) : ∃ x : Part, xs = x.row ∧ x.ok := by
  obtain ⟨xss, rfl, hn, hf⟩ := h.struct_inv Try.underlying34
  rcases xss with _ | ⟨a, _ | ⟨b, _ | ⟨c, _ | ⟨d, r⟩⟩⟩⟩
  all_goals try (simp at hn; done)
  obtain ⟨s0, rfl, _⟩ := str_typed (hf 0 _ a rfl rfl)
  obtain ⟨a1, rfl⟩ := act_typed (hf 1 _ b rfl rfl)
  obtain ⟨rows, rfl, hr, hs⟩ := (hf 2 _ c rfl rfl).slice_inv Try.underlying32
  obtain ⟨l, rfl, hl⟩ := list_typed (fun _ _ h => rule_typed h) hr
  have hb : Try.prog.bytesOf 31 = 64 := by kernel_rfl
  rw [hb, List.length_map] at hs
  exact ⟨⟨s0, a1, l⟩, rfl, by simp only; have : reachBytes = 140737488351232 := rfl; omega, hl⟩
def Pol.ok (p : Pol) : Prop := p.parts.length * 56 ≤ 2 ^ 47 ∧ ∀ x ∈ p.parts, x.ok
theorem pol_typed {xs : List D} (h : Typed Try.prog 37 xs) : ∃ x : Pol, xs = x.row ∧ x.ok := by
  obtain ⟨xss, rfl, hn, hf⟩ := h.struct_inv Try.underlying37
  rcases xss with _ | ⟨a, _ | ⟨b, _ | ⟨c, r⟩⟩⟩
  all_goals try (simp at hn; done)
  obtain ⟨s0, rfl, _⟩ := str_typed (hf 0 _ a rfl rfl)
  obtain ⟨rows, rfl, hr, hs⟩ := (hf 1 _ b rfl rfl).slice_inv Try.underlying35
  obtain ⟨l, rfl, hl⟩ := list_typed (fun _ _ h => part_typed h) hr
  have hb : Try.prog.bytesOf 34 = 56 := by kernel_rfl
  rw [hb, List.length_map] at hs
  exact ⟨⟨s0, l⟩, rfl, by simp only; have : reachBytes = 140737488351232 := rfl; omega, hl⟩
theorem pols_typed {xs : List D} (h : Typed Try.prog 38 xs) : ∃ l : List Pol, xs = [.list (l.map Pol.row)] ∧ l.length * 40 ≤ 2 ^ 47 ∧ ∀ p ∈ l, p.ok := by
  obtain ⟨rows, rfl, hr, hs⟩ := h.slice_inv Try.underlying38
  obtain ⟨l, rfl, hl⟩ := list_typed (fun _ _ h => pol_typed h) hr
  have hb : Try.prog.bytesOf 37 = 40 := by kernel_rfl
  rw [hb, List.length_map] at hs
  exact ⟨l, rfl, by have : reachBytes = 140737488351232 := rfl; omega, hl⟩
end Go.Proofs.Ytngkoancdmimkaa
