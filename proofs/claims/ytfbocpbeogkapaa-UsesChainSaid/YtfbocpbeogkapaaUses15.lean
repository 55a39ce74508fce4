/- A part of a proof: functions of the program, walked over the abstract machine. -/
import Derived.Test.YtfbocpbeogkapaaUses14
set_option linter.unusedVariables false
set_option linter.unusedSimpArgs false
namespace Go.Proofs.Ytfbocpbeogkapaa
open Go Go.Am Go.Proofs
attribute [local irreducible] W WL DL WO RoundEnd
set_option maxRecDepth 10000
set_option maxHeartbeats 4000000
theorem one15 (l : List Pol) (hl : l.length * 40 ≤ 2 ^ 47) (hp : ∀ p ∈ l, p.ok) : Comp Try.prog 7 [lst Pol.row l] (bool true) := by
  have hm : ∀ p ∈ l, p.parts.length * 56 ≤ 2 ^ 47 := fun p h => (hp p h).1
  have hr : ∀ p ∈ l, ∀ x ∈ p.parts, x.ok := fun p h => (hp p h).2
  have c0 := alive15
  have c1 := fewUnitR ⟨[], l, [], ⟨0, 0⟩⟩
  have c2 := manyR l (by omega) hm
  refine Spec.body (C := cx [(4, false), (5, false), (97, false)] 116) fits (fn := Try.f7) Try.func7 rfl (by decide) (by decide) (gI ?_)
  repeat' (first
    | ((first | refine gC fits mixed ?_ | refine gC0 fits mixed ?_ | refine gO fits mixed ?_ | refine gR fits mixed ?_); (conv => whnf); first | (refine ⟨fun hb => ?_, fun hb => ?_⟩ <;> try first | (simp only [Bool.not_true, Bool.not_false, Bool.true_eq_false, Bool.false_eq_true, reduceCtorEq] at hb; done) | (simp only [decide_eq_true_eq, decide_eq_false_iff_not, beq_iff_eq, beq_eq_false_iff_ne, bne_iff_ne, bne_eq_false_iff_eq, ne_eq, List.length_map, List.length_cons, List.length_nil, List.length_append, Bool.not_eq_true', Bool.not_eq_false'] at hb; exfalso; omega) | (exfalso; simp [ba_beq, IntKind.wrap, IntKind.bits, IntKind.signed] at hb; done)) | (show W _ _ _ _ _) | (show ∀ k, WL _ _ _ k _ _ _) | (show ∀ k, DL _ _ _ k _ _ _ _) | (show RoundEnd _ _ _ _ _) | refine fR ?_ | (show _ ∧ Go.Am.Fin _ _ _ _ _ _))
    | (show ∀ k, WL _ _ _ k _ _ _; first | refine fun k => lC (c0) (oW ?_ _) | (refine fun k => lCB (c1) (fun h1 => oW ?_ _) (fun h1 => oW ?_ _)) | refine fun k => lC (c2) (oW ?_ _) | refine fun k => lSA fits (oW ?_ _) | refine fun k => lL fits (oW ?_ _) | refine fun k => lQ fits (oW ?_ _) | refine fun k => lX fits (oW ?_ _) | refine fun k => lXa fits (oW ?_ _) | refine fun k => lK fits (oW ?_ _) | refine fun k => lKa fits (oW ?_ _) | refine fun k => lLk fits (oW ?_ _) | refine fun k => lUp fits (oW ?_ _) | refine fun k => lDel fits (oW ?_ _) | refine fun k => lSt fits (oW ?_ _) | refine fun k => lLU fits (oW ?_ _) | refine fun k => lM fits (oW ?_ _) | refine fun k => lA fits (oW ?_ _) | refine fun k => lA0 fits (oW ?_ _) | refine fun k => lA1 fits (oW ?_ _) | refine fun k => lMk fits (oW ?_ _) | refine fun k => lW fits (oW ?_ _)))
  all_goals try exact ⟨rfl, rfl⟩
  have h8 := (few_len h1).1
  simp only at h8
  refine wLoop [0, 4, 5, 6] 2 (l.length + 1) ?_
  refine (fun key => key l [] _ rfl rfl (by intro p hp; simp at hp) :
    (∀ (rest done : List Pol) (j : Int), l = done ++ rest → j = done.length → (∀ p ∈ done, (p.name ≠ allS ∧ p.name ≠ ⟨#[]⟩) ∧ ∀ x ∈ p.parts, x.use ≠ allS) →
    WR2 _ _ _ _ _ (rest.length + 1) [(0, lst Pol.row l), (4, .one (.arr 0 0 ((done.map (·.name)).map strow).length)), (5, .one (.arr 1 0 ((done.map useOf).map Part.row).length)), (6, int .i64 j)]
      [.arr 0 false 1 ((done.map (·.name)).map strow), .arr 0 false 4 ((done.map useOf).map Part.row)]) → _) ?_
  intro rest
  induction rest with
  | cons x rest ih =>
    intro done j g1 hj hno
    have hlen : l.length = done.length + (rest.length + 1) := by rw [g1]; simp
    obtain ⟨pn, pp⟩ := x
    have hpp : pp.length * 56 ≤ 2 ^ 47 := by
      have := hm ⟨pn, pp⟩ (by rw [g1]; simp)
      simpa only using this
    refine wR (gI ?_)
    repeat' (first
    | ((first | refine gC fits mixed ?_ | refine gC0 fits mixed ?_ | refine gO fits mixed ?_ | refine gR fits mixed ?_); (conv => whnf); first | (refine ⟨fun hb => ?_, fun hb => ?_⟩ <;> try first | (simp only [Bool.not_true, Bool.not_false, Bool.true_eq_false, Bool.false_eq_true, reduceCtorEq] at hb; done) | (simp only [decide_eq_true_eq, decide_eq_false_iff_not, beq_iff_eq, beq_eq_false_iff_ne, bne_iff_ne, bne_eq_false_iff_eq, ne_eq, List.length_map, List.length_cons, List.length_nil, List.length_append, Bool.not_eq_true', Bool.not_eq_false'] at hb; exfalso; omega) | (exfalso; simp [ba_beq, IntKind.wrap, IntKind.bits, IntKind.signed] at hb; done)) | (show W _ _ _ _ _) | (show ∀ k, WL _ _ _ k _ _ _) | (show ∀ k, DL _ _ _ k _ _ _ _) | (show RoundEnd _ _ _ _ _) | refine fR ?_ | (show _ ∧ Go.Am.Fin _ _ _ _ _ _))
    | (show ∀ k, WL _ _ _ k _ _ _; first | refine fun k => lSA fits (oW ?_ _) | refine fun k => lL fits (oW ?_ _) | refine fun k => lQ fits (oW ?_ _) | refine fun k => lX fits (oW ?_ _) | refine fun k => lXa fits (oW ?_ _) | refine fun k => lK fits (oW ?_ _) | refine fun k => lKa fits (oW ?_ _) | refine fun k => lLk fits (oW ?_ _) | refine fun k => lUp fits (oW ?_ _) | refine fun k => lDel fits (oW ?_ _) | refine fun k => lSt fits (oW ?_ _) | refine fun k => lLU fits (oW ?_ _) | refine fun k => lM fits (oW ?_ _) | refine fun k => lA fits (oW ?_ _) | refine fun k => lA0 fits (oW ?_ _) | refine fun k => lA1 fits (oW ?_ _) | refine fun k => lMk fits (oW ?_ _) | refine fun k => lW fits (oW ?_ _)))
    all_goals try exact ⟨rfl, rfl⟩
    have n1 : pn ≠ allS := by
      have h : (pn == (⟨#[97, 108, 108]⟩ : ByteArray)) = false := by assumption
      rw [ba_beq, decide_eq_false_iff_not] at h; exact h
    have n2 : pn ≠ ⟨#[]⟩ := by
      have h : (pn == (⟨#[]⟩ : ByteArray)) = false := by assumption
      rw [ba_beq, decide_eq_false_iff_not] at h; exact h
    refine wLoop [0, 4, 5, 6, 7] 2 (pp.length + 1) ?_
    refine (fun key => key pp [] _ rfl rfl (by intro p hp; simp at hp) :
      (∀ (rest2 done2 : List Part) (j2 : Int), pp = done2 ++ rest2 → j2 = done2.length → (∀ x ∈ done2, x.use ≠ allS) →
      WR2 _ _ _ _ _ (rest2.length + 1) [(0, lst Pol.row l), (4, .one (.arr 0 0 ((done.map (·.name)).map strow).length)), (5, .one (.arr 1 0 ((done.map useOf).map Part.row).length)), (6, int .i64 j), (7, int .i64 j2)]
        [.arr 0 false 1 ((done.map (·.name)).map strow), .arr 0 false 4 ((done.map useOf).map Part.row)]) → _) ?_
    intro rest2
    induction rest2 with
    | cons y rest2 ih2 =>
      intro done2 j2 g2 hj2 hno2
      have hlen2 : pp.length = done2.length + (rest2.length + 1) := by rw [g2]; simp
      obtain ⟨xu, ⟨xk, xd⟩, xr⟩ := y
      refine wR (gI ?_)
      repeat' (first
    | ((first | refine gC fits mixed ?_ | refine gC0 fits mixed ?_ | refine gO fits mixed ?_ | refine gR fits mixed ?_); (conv => whnf); first | (refine ⟨fun hb => ?_, fun hb => ?_⟩ <;> try first | (simp only [Bool.not_true, Bool.not_false, Bool.true_eq_false, Bool.false_eq_true, reduceCtorEq] at hb; done) | (simp only [decide_eq_true_eq, decide_eq_false_iff_not, beq_iff_eq, beq_eq_false_iff_ne, bne_iff_ne, bne_eq_false_iff_eq, ne_eq, List.length_map, List.length_cons, List.length_nil, List.length_append, Bool.not_eq_true', Bool.not_eq_false'] at hb; exfalso; omega) | (exfalso; simp [ba_beq, IntKind.wrap, IntKind.bits, IntKind.signed] at hb; done)) | (show W _ _ _ _ _) | (show ∀ k, WL _ _ _ k _ _ _) | (show ∀ k, DL _ _ _ k _ _ _ _) | (show RoundEnd _ _ _ _ _) | refine fR ?_ | (show _ ∧ Go.Am.Fin _ _ _ _ _ _))
    | (show ∀ k, WL _ _ _ k _ _ _; first | refine fun k => lSA fits (oW ?_ _) | refine fun k => lL fits (oW ?_ _) | refine fun k => lQ fits (oW ?_ _) | refine fun k => lX fits (oW ?_ _) | refine fun k => lXa fits (oW ?_ _) | refine fun k => lK fits (oW ?_ _) | refine fun k => lKa fits (oW ?_ _) | refine fun k => lLk fits (oW ?_ _) | refine fun k => lUp fits (oW ?_ _) | refine fun k => lDel fits (oW ?_ _) | refine fun k => lSt fits (oW ?_ _) | refine fun k => lLU fits (oW ?_ _) | refine fun k => lM fits (oW ?_ _) | refine fun k => lA fits (oW ?_ _) | refine fun k => lA0 fits (oW ?_ _) | refine fun k => lA1 fits (oW ?_ _) | refine fun k => lMk fits (oW ?_ _) | refine fun k => lW fits (oW ?_ _)))
      · exact ⟨rfl, rfl⟩
      · have n3 : xu ≠ allS := by
          have h : (xu == (⟨#[97, 108, 108]⟩ : ByteArray)) = false := by assumption
          rw [ba_beq, decide_eq_false_iff_not] at h; exact h
        refine rE (ih2 (done2 ++ [⟨xu, ⟨xk, xd⟩, xr⟩]) _ (by rw [g2]; simp) ?_ ?_)
        · rw [wrap_ok (by omega) (by omega)]; simp [hj2]
        · intro z hz
          rcases List.mem_append.1 hz with hz | hz
          · exact hno2 z hz
          · simp at hz; subst hz; exact n3
    | nil =>
      intro done2 j2 g2 hj2 hno2
      have hlen2 : pp.length = done2.length := by rw [g2]; simp
      have hdd : done2 = pp := by rw [g2]; simp
      refine wR (gI ?_)
      repeat' (first
    | ((first | refine gC fits mixed ?_ | refine gC0 fits mixed ?_ | refine gO fits mixed ?_ | refine gR fits mixed ?_); (conv => whnf); first | (refine ⟨fun hb => ?_, fun hb => ?_⟩ <;> try first | (simp only [Bool.not_true, Bool.not_false, Bool.true_eq_false, Bool.false_eq_true, reduceCtorEq] at hb; done) | (simp only [decide_eq_true_eq, decide_eq_false_iff_not, beq_iff_eq, beq_eq_false_iff_ne, bne_iff_ne, bne_eq_false_iff_eq, ne_eq, List.length_map, List.length_cons, List.length_nil, List.length_append, Bool.not_eq_true', Bool.not_eq_false'] at hb; exfalso; omega) | (exfalso; simp [ba_beq, IntKind.wrap, IntKind.bits, IntKind.signed] at hb; done)) | (show W _ _ _ _ _) | (show ∀ k, WL _ _ _ k _ _ _) | (show ∀ k, DL _ _ _ k _ _ _ _) | (show RoundEnd _ _ _ _ _) | refine fR ?_ | (show _ ∧ Go.Am.Fin _ _ _ _ _ _))
    | (show ∀ k, WL _ _ _ k _ _ _; first | refine fun k => lSA fits (oW ?_ _) | refine fun k => lL fits (oW ?_ _) | refine fun k => lQ fits (oW ?_ _) | refine fun k => lX fits (oW ?_ _) | refine fun k => lXa fits (oW ?_ _) | refine fun k => lK fits (oW ?_ _) | refine fun k => lKa fits (oW ?_ _) | refine fun k => lLk fits (oW ?_ _) | refine fun k => lUp fits (oW ?_ _) | refine fun k => lDel fits (oW ?_ _) | refine fun k => lSt fits (oW ?_ _) | refine fun k => lLU fits (oW ?_ _) | refine fun k => lM fits (oW ?_ _) | refine fun k => lA fits (oW ?_ _) | refine fun k => lA0 fits (oW ?_ _) | refine fun k => lA1 fits (oW ?_ _) | refine fun k => lMk fits (oW ?_ _) | refine fun k => lW fits (oW ?_ _)))
      have g := ih (done ++ [⟨pn, pp⟩]) (IntKind.wrap .i64 (j + 1)) (by rw [g1]; simp) (by rw [wrap_ok (by omega) (by omega)]; simp [hj]) (by
        intro z hz
        rcases List.mem_append.1 hz with hz | hz
        · exact hno z hz
        · simp at hz; subst hz; exact ⟨⟨n1, n2⟩, by rw [← hdd]; exact hno2⟩)
      rw [List.map_append, List.map_append, List.map_append, List.map_append] at g
      exact rE g
  | nil =>
    intro done j g1 hj hno
    have hlen : l.length = done.length := by rw [g1]; simp
    have hdd : l = done := by rw [g1]; simp
    subst hdd
    have c3 := flatR l (l.map (·.name)) (by omega) (by simp; omega) hm hr
    have c4 := flatR (l ++ [allP l]) [allS] (by simp; omega) (by simp) (by
      intro p hp
      rcases List.mem_append.1 hp with hp | hp
      · exact hm p hp
      · simp at hp; subst hp; simp [allP]; omega) (by
      intro p hp
      rcases List.mem_append.1 hp with hp | hp
      · exact hr p hp
      · simp at hp; subst hp
        intro x hx
        obtain ⟨z, _, rfl⟩ := List.mem_map.1 hx
        exact ⟨by simp [useOf], by intro r hr; simp [useOf] at hr⟩)
    rw [one_same l hno] at c4
    have e4 : lst Pol.row (l ++ [allP l]) = .one (.d (.list (l.map Pol.row ++ [Pol.row (allP l)]))) := by simp [lst]
    rw [e4] at c4
    have hout := flatF_out l (l.map (·.name)) hr
    generalize flatF l (l.map (·.name)) = q at c3 c4 hout
    have c5 := samePartsR q.1 q.1 (by omega) hout.2
    rw [pw_refl Part.eqb_refl] at c5
    have c6 := numR q.2
    refine wR (gI ?_)
    repeat' (first
    | ((first | refine gC fits mixed ?_ | refine gC0 fits mixed ?_ | refine gO fits mixed ?_ | refine gR fits mixed ?_); (conv => whnf); first | (refine ⟨fun hb => ?_, fun hb => ?_⟩ <;> try first | (simp only [Bool.not_true, Bool.not_false, Bool.true_eq_false, Bool.false_eq_true, reduceCtorEq] at hb; done) | (simp only [decide_eq_true_eq, decide_eq_false_iff_not, beq_iff_eq, beq_eq_false_iff_ne, bne_iff_ne, bne_eq_false_iff_eq, ne_eq, List.length_map, List.length_cons, List.length_nil, List.length_append, Bool.not_eq_true', Bool.not_eq_false'] at hb; exfalso; omega) | (exfalso; simp [ba_beq, IntKind.wrap, IntKind.bits, IntKind.signed] at hb; done)) | (show W _ _ _ _ _) | (show ∀ k, WL _ _ _ k _ _ _) | (show ∀ k, DL _ _ _ k _ _ _ _) | (show RoundEnd _ _ _ _ _) | refine fR ?_ | (show _ ∧ Go.Am.Fin _ _ _ _ _ _))
    | (show ∀ k, WL _ _ _ k _ _ _; first | refine fun k => lC (c3) (oW ?_ _) | refine fun k => lC (c4) (oW ?_ _) | refine fun k => lC (c5) (oW ?_ _) | refine fun k => lC (c6) (oW ?_ _) | refine fun k => lSA fits (oW ?_ _) | refine fun k => lL fits (oW ?_ _) | refine fun k => lQ fits (oW ?_ _) | refine fun k => lX fits (oW ?_ _) | refine fun k => lXa fits (oW ?_ _) | refine fun k => lK fits (oW ?_ _) | refine fun k => lKa fits (oW ?_ _) | refine fun k => lLk fits (oW ?_ _) | refine fun k => lUp fits (oW ?_ _) | refine fun k => lDel fits (oW ?_ _) | refine fun k => lSt fits (oW ?_ _) | refine fun k => lLU fits (oW ?_ _) | refine fun k => lM fits (oW ?_ _) | refine fun k => lA fits (oW ?_ _) | refine fun k => lA0 fits (oW ?_ _) | refine fun k => lA1 fits (oW ?_ _) | refine fun k => lMk fits (oW ?_ _) | refine fun k => lW fits (oW ?_ _)))
    exact ⟨rfl, rfl⟩
theorem one15_typed {x0 : List D} (y0 : Typed Try.prog 39 x0) : Comp Try.prog 7 [argV (aggTy Try.prog 39) x0] (bool true) := by
  have a0 : aggTy Try.prog 39 = false := by unfold aggTy; rw [Try.underlying39]
  obtain ⟨l, rfl, h1, h2⟩ := pols_typed y0
  rw [a0]
  exact one15 l h1 h2
end Go.Proofs.Ytfbocpbeogkapaa
