/- A part of a proof: functions of the program, walked over the abstract machine. -/
import Derived.Test.YtfbocpbeogkapaaUses12
import Derived.Test.YtfbocpbeogkapaaTyped
set_option linter.unusedVariables false
set_option linter.unusedSimpArgs false
namespace Go.Proofs.Ytfbocpbeogkapaa
open Go Go.Am Go.Proofs
attribute [local irreducible] W WL DL WO RoundEnd
set_option maxRecDepth 10000
set_option maxHeartbeats 4000000
theorem pw_refl {α : Type} {f : α → α → Bool} (h : ∀ x, f x x = true) : ∀ l : List α, pw f l l = true
  | [] => rfl
  | x :: l => by simp [pw, h, pw_refl h l]
theorem Ex.eqbs_refl : ∀ l : List Ex, Ex.eqbs l l = true
  | [] => rfl
  | x :: l => by simp [Ex.eqbs, Ex.eqb_refl, Ex.eqbs_refl l]
theorem Rule.eqb_refl (r : Rule) : r.eqb r = true := by simp [Rule.eqb, ba_beq, pw_refl, Ex.eqbs_refl]
theorem Part.eqb_refl (r : Part) : r.eqb r = true := by simp [Part.eqb, Act.eqb, ba_beq, pw_refl Rule.eqb_refl]
theorem namesF_out {P : Part → Prop} (m : AL (List Part)) (hm : ∀ p ∈ m, ∀ x ∈ p.2, P x) (n : Nat) : ∀ (names : List ByteArray) (s : Fl), s.ok → s.alls P → (namesF (polF m n) s names).1 = 0 → (namesF (polF m n) s names).2.ok ∧ (namesF (polF m n) s names).2.alls P
  | [], s, h1, h2, _ => ⟨h1, h2⟩
  | x :: r, s, h1, h2, h => by
    simp only [namesF] at h ⊢
    by_cases hz : (polF m n s x).1 = 0
    · rw [if_pos hz] at h ⊢
      exact namesF_out m hm n r _ (polF_good m n s x h1 hz).1 (polF_alls m hm n s x h2) h
    · rw [if_neg hz] at h; exact absurd h hz
theorem flatF_out (l : List Pol) (names : List ByteArray) (hr : ∀ p ∈ l, ∀ x ∈ p.parts, x.ok) : (flatF l names).1.length ≤ 500 ∧ ∀ x ∈ (flatF l names).1, x.ok := by
  unfold flatF
  split
  · exact ⟨by simp, by intro x hx; simp at hx⟩
  · simp only
    have h := namesF_out (P := Part.ok) (polsM l) (by intro p hp; obtain ⟨q, hq, rfl⟩ := List.mem_map.1 hp; exact hr q hq) (l.length + 1) names startF ⟨by decide, by intro p hp; cases hp⟩ ⟨(by intro p hp; cases hp), (by intro p hp; cases hp)⟩
    split
    · rename_i hz
      have h := h hz
      refine ⟨by simpa using h.1.1, fun x hx => ?_⟩
      obtain ⟨y, hy, rfl⟩ := List.mem_map.1 hx
      exact h.2.1 y hy
    · exact ⟨by simp, by intro x hx; simp at hx⟩
theorem alive15 : Comp Try.prog 16 [] (bool true) := by
  have h1 : Comp Try.prog 19 [.one (.d (.list [])), .one (.d (.list []))] (.tup [.one (.d (.list [])), .one (.d (.sc (.int .i64 0)))]) :=
    flatR [] [] (by decide) (by decide) (by intro p hp; cases hp) (by intro p hp; cases hp)
  have e2 : flatF [⟨⟨#[97]⟩, [⟨⟨#[98]⟩, ⟨0, 0⟩, []⟩]⟩, ⟨⟨#[98]⟩, [⟨⟨#[]⟩, ⟨6, 0⟩, []⟩]⟩] [⟨#[97]⟩] = ([⟨⟨#[]⟩, ⟨6, 0⟩, []⟩], 0) := by
    with_unfolding_all rfl
  have h2 := flatR [⟨⟨#[97]⟩, [⟨⟨#[98]⟩, ⟨0, 0⟩, []⟩]⟩, ⟨⟨#[98]⟩, [⟨⟨#[]⟩, ⟨6, 0⟩, []⟩]⟩] [⟨#[97]⟩] (by decide) (by decide)
    (by intro p hp; simp only [List.mem_cons, List.not_mem_nil, or_false] at hp; rcases hp with rfl | rfl <;> simp)
    (by intro p hp; simp only [List.mem_cons, List.not_mem_nil, or_false] at hp; rcases hp with rfl | rfl <;> (intro x hx; simp at hx; subst hx; exact ⟨by simp, by intro r hr; simp at hr⟩))
  rw [e2] at h2
  have h3 := numR 0
  refine Spec.body (C := cx [] 48) fits (fn := Try.f16) Try.func16 rfl (by decide) (by decide) (gI ?_)
  repeat' (first
    | ((first | refine gC fits mixed ?_ | refine gC0 fits mixed ?_ | refine gO fits mixed ?_ | refine gR fits mixed ?_); (conv => whnf); first | (refine ⟨fun hb => ?_, fun hb => ?_⟩ <;> try first | (simp only [Bool.not_true, Bool.not_false, Bool.true_eq_false, Bool.false_eq_true, reduceCtorEq] at hb; done) | (simp only [decide_eq_true_eq, decide_eq_false_iff_not, beq_iff_eq, beq_eq_false_iff_ne, bne_iff_ne, bne_eq_false_iff_eq, ne_eq, List.length_map, List.length_cons, List.length_nil, List.length_append, Bool.not_eq_true', Bool.not_eq_false'] at hb; exfalso; omega) | (exfalso; simp [ba_beq, IntKind.wrap, IntKind.bits, IntKind.signed] at hb; done)) | (show W _ _ _ _ _) | (show ∀ k, WL _ _ _ k _ _ _) | (show ∀ k, DL _ _ _ k _ _ _ _) | (show RoundEnd _ _ _ _ _) | refine fR ?_ | (show _ ∧ Go.Am.Fin _ _ _ _ _ _))
    | (show ∀ k, WL _ _ _ k _ _ _; first | refine fun k => lC (h1) (oW ?_ _) | refine fun k => lC (h2) (oW ?_ _) | refine fun k => lC (h3) (oW ?_ _) | refine fun k => lSA fits (oW ?_ _) | refine fun k => lL fits (oW ?_ _) | refine fun k => lQ fits (oW ?_ _) | refine fun k => lX fits (oW ?_ _) | refine fun k => lXa fits (oW ?_ _) | refine fun k => lK fits (oW ?_ _) | refine fun k => lKa fits (oW ?_ _) | refine fun k => lLk fits (oW ?_ _) | refine fun k => lUp fits (oW ?_ _) | refine fun k => lDel fits (oW ?_ _) | refine fun k => lSt fits (oW ?_ _) | refine fun k => lLU fits (oW ?_ _) | refine fun k => lM fits (oW ?_ _) | refine fun k => lA fits (oW ?_ _) | refine fun k => lA0 fits (oW ?_ _) | refine fun k => lA1 fits (oW ?_ _) | refine fun k => lMk fits (oW ?_ _) | refine fun k => lW fits (oW ?_ _)))
  exact ⟨rfl, rfl⟩
theorem few_len {u : Un} (h : fewUnit u = true) : u.pols.length ≤ 8 ∧ u.main.length ≤ 8 := by
  simp only [fewUnit, Bool.and_eq_true, decide_eq_true_eq] at h
  exact ⟨h.2.1, h.2.2.1⟩
theorem tell15 (l : List Pol) (names : List ByteArray) (hl : l.length * 40 ≤ 2 ^ 47) (hp : ∀ p ∈ l, p.ok) : Comp Try.prog 6 [lst Pol.row l, lst strow names] (bool true) := by
  have hm : ∀ p ∈ l, p.parts.length * 56 ≤ 2 ^ 47 := fun p h => (hp p h).1
  have hr : ∀ p ∈ l, ∀ x ∈ p.parts, x.ok := fun p h => (hp p h).2
  have c0 := alive15
  have c1 := fewUnitR ⟨[], l, names, ⟨0, 0⟩⟩
  have c2 := manyR l (by omega) hm
  have c3 := fun (h : fewUnit ⟨[], l, names, ⟨0, 0⟩⟩ = true) => flatR l names (Nat.le_trans (few_len h).1 (by decide)) (Nat.le_trans (few_len h).2 (by decide)) hm hr
  have c4 := fun (h : fewUnit ⟨[], l, names, ⟨0, 0⟩⟩ = true) => refFlatR l names (Nat.le_trans (few_len h).1 (by decide)) (Nat.le_trans (few_len h).2 (by decide)) hm
  rw [← flat_same] at c4
  have hout := flatF_out l names hr
  generalize flatF l names = q at c3 c4 hout
  have c5 := samePartsR q.1 q.1 (by omega) hout.2
  rw [pw_refl Part.eqb_refl] at c5
  have c6 := numR q.2
  refine Spec.body (C := cx [] 48) fits (fn := Try.f6) Try.func6 rfl (by decide) (by decide) (gI ?_)
  repeat' (first
    | ((first | refine gC fits mixed ?_ | refine gC0 fits mixed ?_ | refine gO fits mixed ?_ | refine gR fits mixed ?_); (conv => whnf); first | (refine ⟨fun hb => ?_, fun hb => ?_⟩ <;> try first | (simp only [Bool.not_true, Bool.not_false, Bool.true_eq_false, Bool.false_eq_true, reduceCtorEq] at hb; done) | (simp only [decide_eq_true_eq, decide_eq_false_iff_not, beq_iff_eq, beq_eq_false_iff_ne, bne_iff_ne, bne_eq_false_iff_eq, ne_eq, List.length_map, List.length_cons, List.length_nil, List.length_append, Bool.not_eq_true', Bool.not_eq_false'] at hb; exfalso; omega) | (exfalso; simp [ba_beq, IntKind.wrap, IntKind.bits, IntKind.signed] at hb; done)) | (show W _ _ _ _ _) | (show ∀ k, WL _ _ _ k _ _ _) | (show ∀ k, DL _ _ _ k _ _ _ _) | (show RoundEnd _ _ _ _ _) | refine fR ?_ | (show _ ∧ Go.Am.Fin _ _ _ _ _ _))
    | (show ∀ k, WL _ _ _ k _ _ _; first | refine fun k => lC (c0) (oW ?_ _) | (refine fun k => lCB (c1) (fun h1 => oW ?_ _) (fun h1 => oW ?_ _)) | refine fun k => lC (c2) (oW ?_ _) | refine fun k => lC ((c3 h1)) (oW ?_ _) | refine fun k => lC ((c4 h1)) (oW ?_ _) | refine fun k => lC (c5) (oW ?_ _) | refine fun k => lC (c6) (oW ?_ _) | refine fun k => lSA fits (oW ?_ _) | refine fun k => lL fits (oW ?_ _) | refine fun k => lQ fits (oW ?_ _) | refine fun k => lX fits (oW ?_ _) | refine fun k => lXa fits (oW ?_ _) | refine fun k => lK fits (oW ?_ _) | refine fun k => lKa fits (oW ?_ _) | refine fun k => lLk fits (oW ?_ _) | refine fun k => lUp fits (oW ?_ _) | refine fun k => lDel fits (oW ?_ _) | refine fun k => lSt fits (oW ?_ _) | refine fun k => lLU fits (oW ?_ _) | refine fun k => lM fits (oW ?_ _) | refine fun k => lA fits (oW ?_ _) | refine fun k => lA0 fits (oW ?_ _) | refine fun k => lA1 fits (oW ?_ _) | refine fun k => lMk fits (oW ?_ _) | refine fun k => lW fits (oW ?_ _)))
  all_goals exact ⟨rfl, rfl⟩
end Go.Proofs.Ytfbocpbeogkapaa
