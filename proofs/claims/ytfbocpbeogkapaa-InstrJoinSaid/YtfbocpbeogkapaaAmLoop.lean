/- The abstract machine: loops, once more: by an invariant over listed variables, and round by round. -/
import Derived.Test.YtfbocpbeogkapaaAmStep3
import Derived.LoopN
set_option linter.unusedVariables false
set_option linter.unusedSimpArgs false
namespace Go.Am
section
variable {C : Cx} {e : Env} {σ : St} {Q : Ex → Env → St → Prop}

/-- a loop: I n: what holds at a round's head, n more rounds at most; only the variables of the list are kept -/
def round2 (n : Nat) (I : Nat → Env → St → Prop) (k : Nat) (l : List Nat) (Q : Ex → Env → St → Prop) : Ex → Env → St → Prop
  | .normal, e, σ => ∃ m e', m < n ∧ pick l e = some e' ∧ I m e' (σ.take k) ∧ trims k e' σ = true
  | .exit id, e, σ => Q (.exit id) e σ
  | .ret, e, σ => Q .ret e σ

theorem round2.mk {n m : Nat} {I : Nat → Env → St → Prop} {k : Nat} {l : List Nat} {e' : Env} {σ' : St} (hp : pick l e = some e') (hσ : fS (σ.take k) = some σ') (ht : trims k e' σ = true) (hm : m < n) (hI : I m e' σ') : round2 n I k l Q .normal e σ := by
  rw [fS_eq] at hσ; injection hσ with hσ; subst hσ
  exact ⟨m, e', hm, hp, hI, ht⟩

theorem W.loop2 {c : Code} (l : List Nat) (k : Nat) (I : Nat → Env → St → Prop) {n : Nat} {e1 : Env} (hk : σ.length = k) (hp : pick l e = some e1) (h0 : I n e1 σ)
    (hr : ∀ n e σ, I n e σ → σ.length = k → W C c e σ (round2 n I k l Q)) : W C (.loop c) e σ Q := by
  intro κ0 w0 a0 hs0
  let J : Nat → Act → World → Prop := fun n a w => ∃ κ e' σ', I n e' σ' ∧ σ'.length = k ∧ Evo κ0 w0 σ κ w σ' ∧ SR C.n κ w e' σ' a
  have hmin : ∀ a w, (∃ n, J n a w) → ∃ n, J n a w ∧ ∀ m, J m a w → n ≤ m := by
    intro a w ⟨n, hn⟩
    induction n using Nat.strongRecOn with
    | _ n ih =>
      by_cases h : ∃ m, m < n ∧ J m a w
      · obtain ⟨m, h1, h2⟩ := h; exact ih m h1 h2
      · exact ⟨n, hn, fun m hm => Nat.le_of_not_lt fun hlt => h ⟨m, hlt, hm⟩⟩
  let μ : Act → World → Nat := fun a w => open Classical in if h : ∃ n, J n a w then (hmin a w h).choose else 0
  have hμ : ∀ a w (h : ∃ n, J n a w), J (μ a w) a w ∧ ∀ m, J m a w → μ a w ≤ m := by
    intro a w h
    have : μ a w = (hmin a w h).choose := by simp only [μ]; rw [dif_pos h]
    rw [this]; exact (hmin a w h).choose_spec
  refine wp_loop (fun a w => ∃ n, J n a w) μ ⟨n, κ0, e1, σ, h0, hk, .refl, hs0.sub (pick_sub hp)⟩ ?_
  intro a w hI
  obtain ⟨⟨κ, e', σ', hi, hkl, hev, hs⟩, _⟩ := hμ a w hI
  refine wp_mono (hr _ e' σ' hi hkl κ w a hs) fun x a' w' hx => ?_
  obtain ⟨ex, e'', σ'', κ', rfl, hq, hev', hs'⟩ := hx
  cases ex with
  | exit id => exact ⟨.exit id, e'', σ'', κ', rfl, hq, hev.trans hev', hs'⟩
  | ret => exact ⟨.ret, e'', σ'', κ', rfl, hq, hev.trans hev', hs'⟩
  | normal =>
    obtain ⟨m, e3, hm, hp3, hI', ht⟩ := hq
    have hev2 := hev.trans hev'
    have hlen : k ≤ σ''.length := by have := hev'.len; omega
    have hJ : J m a' w' := ⟨κ', e3, σ''.take k, hI', by simp; omega, hev2.take (by omega), (hs'.sub (pick_sub hp3)).take ht⟩
    exact ⟨⟨m, hJ⟩, Nat.lt_of_le_of_lt ((hμ a' w' ⟨m, hJ⟩).2 m hJ) hm⟩

/-- so many rounds -/
def again (R : Env → St → Prop) (Q : Ex → Env → St → Prop) : Ex → Env → St → Prop
  | .normal, e, σ => R e σ
  | .exit id, e, σ => Q (.exit id) e σ
  | .ret, e, σ => Q .ret e σ
def WR (C : Cx) (c : Code) (Q : Ex → Env → St → Prop) : Nat → Env → St → Prop
  | 0, _, _ => False
  | n + 1, e, σ => W C c e σ (again (WR C c Q n) Q)
theorem WR.step {c : Code} {n : Nat} (h : W C c e σ (again (WR C c Q n) Q)) : WR C c Q (n + 1) e σ := h

theorem W.rounds {c : Code} (n : Nat) (h : WR C c Q n e σ) : W C (.loop c) e σ Q := by
  intro κ0 w0 a0 hs0
  have key : ∀ n e σ' κ w a, WR C c Q n e σ' → Evo κ0 w0 σ κ w σ' → SR C.n κ w e σ' a →
      Code.rounds C.P c (fun x a' w' => ∃ ex e' σ' κ', x = Ex.to ex ∧ Q ex e' σ' ∧ Evo κ0 w0 σ κ' w' σ' ∧ SR C.n κ' w' e' σ' a') n a w := by
    intro n
    induction n with
    | zero => intro e σ' κ w a h; exact h.elim
    | succ n ih =>
      intro e σ' κ w a h hev hs
      refine wp_mono (h κ w a hs) fun x a' w' hx => ?_
      obtain ⟨ex, e'', σ'', κ', rfl, hq, hev', hs'⟩ := hx
      cases ex with
      | exit id => exact ⟨.exit id, e'', σ'', κ', rfl, hq, hev.trans hev', hs'⟩
      | ret => exact ⟨.ret, e'', σ'', κ', rfl, hq, hev.trans hev', hs'⟩
      | normal => exact ih _ _ _ _ _ hq (hev.trans hev') hs'
  exact wp_loop_rounds n (key n e σ κ0 w0 a0 h .refl hs0)

/-- forgetting, by name -/
theorem W.pick {c : Code} (l : List Nat) {e' : Env} (hp : pick l e = some e') (h : W C c e' σ Q) : W C c e σ Q := W.sub (pick_sub hp) h
end
end Go.Am
