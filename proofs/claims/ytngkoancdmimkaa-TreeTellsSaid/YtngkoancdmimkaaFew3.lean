/- A part of a proof: functions of the program, walked over the abstract machine. -/
import Derived.Test.YtngkoancdmimkaaFew2
import Derived.Test.YtngkoancdmimkaaEqs
import Derived.Test.YtngkoancdmimkaaRefl
set_option linter.unusedVariables false
set_option linter.unusedSimpArgs false
namespace Go.Proofs.Ytngkoancdmimkaa
open Go Go.Am Go.Proofs
/-! what is few is good -/
theorem sizesF_ge : ∀ (l : List Ex) (d : Nat) (n : Int), d ≤ 101 → n ≤ sizesF l d n
  | [], d, n, _ => by rw [sizesF]; exact Int.le_refl _
  | x :: l, d, n, h => by
    rw [sizesF]
    have hx := sizeF_le x d h
    split
    · have := sizesF_ge l d (n + sizeF x d) h; omega
    · exact Int.le_refl _
mutual
theorem sizeF_eq : ∀ (e : Ex) (d : Nat), d ≤ 101 → sizeF e d < 1000 → sizeF e d = e.size ∧ e.nok
  | .mk k o n u l, d, h, hs => by
    rw [sizeF] at hs ⊢
    split at hs
    · omega
    · rename_i hn
      rw [if_neg hn]
      have := sizesF_eq l (d + 1) 1 (by omega) (by omega) hs
      rw [Ex.size]
      exact ⟨by rw [this.1]; omega, by omega, this.2⟩
theorem sizesF_eq : ∀ (l : List Ex) (d : Nat) (n : Int), d ≤ 101 → 0 ≤ n → sizesF l d n < 1000 → sizesF l d n = n + (Ex.sizes l : Int) ∧ Ex.noks l
  | [], d, n, _, _, _ => by rw [sizesF, Ex.sizes]; exact ⟨by omega, trivial⟩
  | x :: l, d, n, h, h0, hs => by
    rw [sizesF] at hs ⊢
    have hx := sizeF_le x d h
    split at hs
    · rename_i hn
      rw [if_pos hn]
      have hge := sizesF_ge l d (n + sizeF x d) h
      have h1 := sizeF_eq x d h (by omega)
      have h2 := sizesF_eq l d (n + sizeF x d) h (by omega) hs
      rw [Ex.sizes]
      refine ⟨?_, h1.2, h2.2⟩
      rw [h2.1, h1.1]; omega
    · omega
end
theorem size_pos : ∀ e : Ex, 1 ≤ e.size
  | .mk _ _ _ _ l => by rw [Ex.size]; omega
theorem sizes_len : ∀ l : List Ex, l.length ≤ Ex.sizes l
  | [] => Nat.zero_le _
  | x :: l => by have := sizes_len l; have := size_pos x; simp only [Ex.sizes, List.length_cons]; omega
mutual
theorem ok_of_size : ∀ (e : Ex), e.size ≤ 1000 → e.ok
  | .mk _ _ _ _ l, h => by
    rw [Ex.size] at h
    have := sizes_len l
    exact ⟨by omega, oks_of_size l (by omega)⟩
theorem oks_of_size : ∀ (l : List Ex), Ex.sizes l ≤ 1000 → Ex.oks l
  | [], _ => trivial
  | x :: l, h => by
    rw [Ex.sizes] at h
    exact ⟨ok_of_size x (by omega), oks_of_size l (by omega)⟩
end
theorem few_size {e : Ex} (h : few e = true) : e.size ≤ 300 ∧ e.nok := by
  simp only [few, decide_eq_true_eq] at h
  have := sizeF_eq e 0 (by omega) (by omega)
  exact ⟨by omega, this.2⟩
theorem few_good {e : Ex} (h : few e = true) : e.good := ⟨(few_size h).2, by have := (few_size h).1; omega⟩
theorem few_ok {e : Ex} (h : few e = true) : e.ok := ok_of_size e (by have := (few_size h).1; omega)
theorem oks_of : ∀ (l : List Ex), (∀ e ∈ l, e.ok) → Ex.oks l
  | [], _ => trivial
  | x :: l, h => ⟨h x (by simp), oks_of l fun e he => h e (by simp [he])⟩
theorem fewRule_out {r : Rule} (h : fewRule r = true) : r.good ∧ r.ok := by
  simp only [fewRule, Bool.and_eq_true, decide_eq_true_eq, List.all_eq_true] at h
  obtain ⟨h1, h2, h3, h4, h5⟩ := h
  refine ⟨⟨by omega, by omega, fun s hs => by have := h4 s hs; omega, by omega, fun e he => few_good (h5 e he)⟩, by omega, by omega, oks_of _ fun e he => few_ok (h5 e he)⟩
theorem fewPart_out {p : Part} (h : fewPart p = true) : p.good ∧ p.ok := by
  simp only [fewPart, Bool.and_eq_true, decide_eq_true_eq, List.all_eq_true] at h
  obtain ⟨h1, h2, h3⟩ := h
  exact ⟨⟨by omega, by omega, fun r hr => (fewRule_out (h3 r hr)).1⟩, by omega, fun r hr => (fewRule_out (h3 r hr)).2⟩
theorem fewPol_out {p : Pol} (h : fewPol p = true) : p.good ∧ p.okS := by
  simp only [fewPol, Bool.and_eq_true, decide_eq_true_eq, List.all_eq_true] at h
  obtain ⟨h1, h2, h3⟩ := h
  exact ⟨⟨by omega, by omega, fun r hr => (fewPart_out (h3 r hr)).1⟩, by omega, fun r hr => (fewPart_out (h3 r hr)).2⟩
theorem fewUnit_out {u : Un} (h : fewUnit u = true) : u.good ∧ u.ok := by
  simp only [fewUnit, Bool.and_eq_true, decide_eq_true_eq, List.all_eq_true] at h
  obtain ⟨h1, h2, h3, h4, h5, h6, _⟩ := h
  have hd : ∀ d ∈ u.defs, few d.expr = true ∧ d.name.size ≤ 60 := fun d hd => by
    have := h4 d hd
    simpa [fewDef] using this
  exact ⟨⟨by omega, fun d hdm => ⟨by have := (hd d hdm).2; omega, few_good (hd d hdm).1⟩, by omega, fun p hp => (fewPol_out (h6 p hp)).1, by omega, fun s hs => by have := h5 s hs; omega⟩,
    by omega, fun d hdm => few_ok (hd d hdm).1, by omega, fun p hp => (fewPol_out (h6 p hp)).2, by omega⟩
theorem Pol.eqb_refl (p : Pol) : p.eqb p = true := by simp [Pol.eqb, ba_beq, pw_refl Part.eqb_refl]
theorem Def.eqb_refl (d : Def) : d.eqb d = true := by simp [Def.eqb, ba_beq, Ex.eqb_refl]
theorem Un.eqb_refl (u : Un) : u.eqb u = true := by
  simp only [Un.eqb, pw_refl Def.eqb_refl, pw_refl Pol.eqb_refl, beq_self_eq_true, Bool.and_self, Bool.true_and, Bool.and_true]
  exact pw_refl (fun x => by simp [ba_beq]) _
end Go.Proofs.Ytngkoancdmimkaa
