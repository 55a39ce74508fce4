/- A part of a proof: functions of the program, walked over the abstract machine. -/
import Derived.Test.YtceccgnpkelpkaaSpan7
set_option linter.unusedVariables false
set_option linter.unusedSimpArgs false
namespace Go.Proofs.Ytceccgnpkelpkaa
open Go Go.Am Go.Proofs
attribute [local irreducible] W WL DL WO RoundEnd
set_option maxRecDepth 10000
set_option maxHeartbeats 4000000
theorem sameStepsR (a b : List Stp) (hla : a.length < 2 ^ 60) (hok : ∀ c ∈ a, c.ok) : Comp Try.prog 20 [lst Stp.row a, lst Stp.row b] (bool (pw Stp.eqb a b)) := by
  refine Spec.body (C := cx [] 42) fits (fn := Try.f20) Try.func20 rfl (by decide) (by decide) (gI ?_)
  repeat' (first
    | ((first | refine gC fits mixed ?_ | refine gC0 fits mixed ?_ | refine gO fits mixed ?_ | refine gR fits mixed ?_); (conv => whnf); first | (refine ⟨fun hb => ?_, fun hb => ?_⟩ <;> try first | (simp only [Bool.not_true, Bool.not_false, Bool.true_eq_false, Bool.false_eq_true, reduceCtorEq] at hb; done) | exact Bool.noConfusion (hb.symm.trans (by assumption) : true = false) | exact Bool.noConfusion (hb.symm.trans (by assumption) : false = true) | (simp only [decide_eq_true_eq, decide_eq_false_iff_not, beq_iff_eq, beq_eq_false_iff_ne, bne_iff_ne, bne_eq_false_iff_eq, ne_eq, List.length_map, List.length_cons, List.length_nil, List.length_append, Bool.not_eq_true', Bool.not_eq_false'] at hb; exfalso; omega) | (exfalso; simp [ba_beq, IntKind.wrap, IntKind.bits, IntKind.signed] at hb; done)) | (show W _ _ _ _ _) | (show ∀ k, WL _ _ _ k _ _ _) | (show ∀ k, DL _ _ _ k _ _ _ _) | (show RoundEnd _ _ _ _ _) | refine fR ?_ | refine fRk ?_ | (show _ ∧ Go.Am.Fin _ _ _ _ _ _))
    | (show ∀ k, WL _ _ _ k _ _ _; first | refine fun k => lSA fits (oW ?_ _) | refine fun k => lL fits (oW ?_ _) | refine fun k => lQ fits (oW ?_ _) | refine fun k => lX fits (oW ?_ _) | refine fun k => lXa fits (oW ?_ _) | refine fun k => lXs fits (oW ?_ _) | refine fun k => lK fits (oW ?_ _) | refine fun k => lKa fits (oW ?_ _) | refine fun k => lLk fits (oW ?_ _) | refine fun k => lUp fits (oW ?_ _) | refine fun k => lDel fits (oW ?_ _) | refine fun k => lSt fits (oW ?_ _) | refine fun k => lLU fits (oW ?_ _) | refine fun k => lXw fits (oW ?_ _) | refine fun k => lLe fits (oW ?_ _) | refine fun k => lSe fits (oW ?_ _) | refine fun k => lM fits (oW ?_ _) | refine fun k => lA fits (oW ?_ _) | refine fun k => lA0 fits (oW ?_ _) | refine fun k => lA1 fits (oW ?_ _) | refine fun k => lMk fits (oW ?_ _) | refine fun k => lW fits (oW ?_ _))
    | (show ∀ k, DL _ _ _ k _ _ _ _; first | refine fun k => dSA fits (oD ?_ _) | refine fun k => dL fits (oD ?_ _) | refine fun k => dQ fits (oD ?_ _) | refine fun k => dX fits (oD ?_ _) | refine fun k => dXs fits (oD ?_ _) | refine fun k => dK fits (oD ?_ _) | refine fun k => dKa fits (oD ?_ _) | refine fun k => dLk fits (oD ?_ _) | refine fun k => dUp fits (oD ?_ _) | refine fun k => dA fits (oD ?_ _) | refine fun k => dA0 fits (oD ?_ _) | refine fun k => dSt fits (oD ?_ _) | refine fun k => dLU fits (oD ?_ _) | refine fun k => dXw fits (oD ?_ _) | refine fun k => dLe fits (oD ?_ _) | refine fun k => dSe fits (oD ?_ _) | refine fun k => dM fits (oD ?_ _) | refine fun k => dN fits (oD ?_ _) | refine fun k => dW fits (oD ?_ _)))
  · refine ⟨?_, rfl⟩
    have hne : a.length ≠ b.length := by simp at hb; omega
    rw [pw_len hne]; rfl
  have hab : a.length = b.length := by simp at hb; omega
  refine wLoop [0, 1, 5] 0 (a.length + 1) ?_
  refine (fun key => key a b [] [] _ rfl rfl rfl rfl hab rfl : (∀ (r1 r2 d1 d2 : List Stp) (j : Int), a = d1 ++ r1 → b = d2 ++ r2 → j = d1.length → j = d2.length → r1.length = r2.length → pw Stp.eqb a b = pw Stp.eqb r1 r2 →
    WR2 _ _ _ _ _ (r1.length + 1) [(0, lst Stp.row a), (1, lst Stp.row b), (5, int .i64 j)] []) → _) ?_
  intro r1
  induction r1 with
  | nil =>
    intro r2 d1 d2 j g1 g2 hj hj2 hr hs
    have hlen : a.length = d1.length := by rw [g1]; simp
    have : r2 = [] := List.length_eq_zero_iff.1 (by simpa using hr.symm)
    subst this
    refine wR (gI ?_)
    repeat' (first
    | ((first | refine gC fits mixed ?_ | refine gC0 fits mixed ?_ | refine gO fits mixed ?_ | refine gR fits mixed ?_); (conv => whnf); first | (refine ⟨fun hb => ?_, fun hb => ?_⟩ <;> try first | (simp only [Bool.not_true, Bool.not_false, Bool.true_eq_false, Bool.false_eq_true, reduceCtorEq] at hb; done) | exact Bool.noConfusion (hb.symm.trans (by assumption) : true = false) | exact Bool.noConfusion (hb.symm.trans (by assumption) : false = true) | (simp only [decide_eq_true_eq, decide_eq_false_iff_not, beq_iff_eq, beq_eq_false_iff_ne, bne_iff_ne, bne_eq_false_iff_eq, ne_eq, List.length_map, List.length_cons, List.length_nil, List.length_append, Bool.not_eq_true', Bool.not_eq_false'] at hb; exfalso; omega) | (exfalso; simp [ba_beq, IntKind.wrap, IntKind.bits, IntKind.signed] at hb; done)) | (show W _ _ _ _ _) | (show ∀ k, WL _ _ _ k _ _ _) | (show ∀ k, DL _ _ _ k _ _ _ _) | (show RoundEnd _ _ _ _ _) | refine fR ?_ | refine fRk ?_ | (show _ ∧ Go.Am.Fin _ _ _ _ _ _))
    | (show ∀ k, WL _ _ _ k _ _ _; first | refine fun k => lSA fits (oW ?_ _) | refine fun k => lL fits (oW ?_ _) | refine fun k => lQ fits (oW ?_ _) | refine fun k => lX fits (oW ?_ _) | refine fun k => lXa fits (oW ?_ _) | refine fun k => lXs fits (oW ?_ _) | refine fun k => lK fits (oW ?_ _) | refine fun k => lKa fits (oW ?_ _) | refine fun k => lLk fits (oW ?_ _) | refine fun k => lUp fits (oW ?_ _) | refine fun k => lDel fits (oW ?_ _) | refine fun k => lSt fits (oW ?_ _) | refine fun k => lLU fits (oW ?_ _) | refine fun k => lXw fits (oW ?_ _) | refine fun k => lLe fits (oW ?_ _) | refine fun k => lSe fits (oW ?_ _) | refine fun k => lM fits (oW ?_ _) | refine fun k => lA fits (oW ?_ _) | refine fun k => lA0 fits (oW ?_ _) | refine fun k => lA1 fits (oW ?_ _) | refine fun k => lMk fits (oW ?_ _) | refine fun k => lW fits (oW ?_ _))
    | (show ∀ k, DL _ _ _ k _ _ _ _; first | refine fun k => dSA fits (oD ?_ _) | refine fun k => dL fits (oD ?_ _) | refine fun k => dQ fits (oD ?_ _) | refine fun k => dX fits (oD ?_ _) | refine fun k => dXs fits (oD ?_ _) | refine fun k => dK fits (oD ?_ _) | refine fun k => dKa fits (oD ?_ _) | refine fun k => dLk fits (oD ?_ _) | refine fun k => dUp fits (oD ?_ _) | refine fun k => dA fits (oD ?_ _) | refine fun k => dA0 fits (oD ?_ _) | refine fun k => dSt fits (oD ?_ _) | refine fun k => dLU fits (oD ?_ _) | refine fun k => dXw fits (oD ?_ _) | refine fun k => dLe fits (oD ?_ _) | refine fun k => dSe fits (oD ?_ _) | refine fun k => dM fits (oD ?_ _) | refine fun k => dN fits (oD ?_ _) | refine fun k => dW fits (oD ?_ _)))
    exact ⟨by rw [hs]; rfl, rfl⟩
  | cons x r1 ih =>
    intro r2 d1 d2 j g1 g2 hj hj2 hr hs
    rcases r2 with _ | ⟨y, r2⟩
    · simp at hr
    have hlen : a.length = d1.length + (r1.length + 1) := by rw [g1]; simp
    have hx := hok x (by rw [g1]; simp)
    have hc := sameClausesR x.clauses y.clauses (by have := hx.1; omega) (fun c hc => by have := hx.2 c hc; omega)
    have hxy : Stp.eqb x y = ((x.act.kind == y.act.kind && (x.act.data == y.act.data && true)) && pw (pw Half.eqb) x.clauses y.clauses) := rfl
    obtain ⟨xc, ⟨xk, xd⟩⟩ := x
    obtain ⟨yc, ⟨yk, yd⟩⟩ := y
    simp only at hxy
    refine wR (gI ?_)
    repeat' (first
    | ((first | refine gC fits mixed ?_ | refine gC0 fits mixed ?_ | refine gO fits mixed ?_ | refine gR fits mixed ?_); (conv => whnf); first | (refine ⟨fun hb => ?_, fun hb => ?_⟩ <;> try first | (simp only [Bool.not_true, Bool.not_false, Bool.true_eq_false, Bool.false_eq_true, reduceCtorEq] at hb; done) | exact Bool.noConfusion (hb.symm.trans (by assumption) : true = false) | exact Bool.noConfusion (hb.symm.trans (by assumption) : false = true) | (simp only [decide_eq_true_eq, decide_eq_false_iff_not, beq_iff_eq, beq_eq_false_iff_ne, bne_iff_ne, bne_eq_false_iff_eq, ne_eq, List.length_map, List.length_cons, List.length_nil, List.length_append, Bool.not_eq_true', Bool.not_eq_false'] at hb; exfalso; omega) | (exfalso; simp [ba_beq, IntKind.wrap, IntKind.bits, IntKind.signed] at hb; done)) | (show W _ _ _ _ _) | (show ∀ k, WL _ _ _ k _ _ _) | (show ∀ k, DL _ _ _ k _ _ _ _) | (show RoundEnd _ _ _ _ _) | refine fR ?_ | refine fRk ?_ | (show _ ∧ Go.Am.Fin _ _ _ _ _ _))
    | (show ∀ k, WL _ _ _ k _ _ _; first | (refine fun k => lCB (hc) (fun h1 => oW ?_ _) (fun h1 => oW ?_ _)) | refine fun k => lSA fits (oW ?_ _) | refine fun k => lL fits (oW ?_ _) | refine fun k => lQ fits (oW ?_ _) | refine fun k => lX fits (oW ?_ _) | refine fun k => lXa fits (oW ?_ _) | refine fun k => lXs fits (oW ?_ _) | refine fun k => lK fits (oW ?_ _) | refine fun k => lKa fits (oW ?_ _) | refine fun k => lLk fits (oW ?_ _) | refine fun k => lUp fits (oW ?_ _) | refine fun k => lDel fits (oW ?_ _) | refine fun k => lSt fits (oW ?_ _) | refine fun k => lLU fits (oW ?_ _) | refine fun k => lXw fits (oW ?_ _) | refine fun k => lLe fits (oW ?_ _) | refine fun k => lSe fits (oW ?_ _) | refine fun k => lM fits (oW ?_ _) | refine fun k => lA fits (oW ?_ _) | refine fun k => lA0 fits (oW ?_ _) | refine fun k => lA1 fits (oW ?_ _) | refine fun k => lMk fits (oW ?_ _) | refine fun k => lW fits (oW ?_ _))
    | (show ∀ k, DL _ _ _ k _ _ _ _; first | (refine fun k => dCB (hc) (fun h1 => oD ?_ _) (fun h1 => oD ?_ _)) | refine fun k => dSA fits (oD ?_ _) | refine fun k => dL fits (oD ?_ _) | refine fun k => dQ fits (oD ?_ _) | refine fun k => dX fits (oD ?_ _) | refine fun k => dXs fits (oD ?_ _) | refine fun k => dK fits (oD ?_ _) | refine fun k => dKa fits (oD ?_ _) | refine fun k => dLk fits (oD ?_ _) | refine fun k => dUp fits (oD ?_ _) | refine fun k => dA fits (oD ?_ _) | refine fun k => dA0 fits (oD ?_ _) | refine fun k => dSt fits (oD ?_ _) | refine fun k => dLU fits (oD ?_ _) | refine fun k => dXw fits (oD ?_ _) | refine fun k => dLe fits (oD ?_ _) | refine fun k => dSe fits (oD ?_ _) | refine fun k => dM fits (oD ?_ _) | refine fun k => dN fits (oD ?_ _) | refine fun k => dW fits (oD ?_ _)))
    · have h : (!(xk == yk && (xd == yd && true))) = true := by assumption
      rw [Bool.not_eq_true'] at h
      exact ⟨by rw [hs, pw, hxy, h]; rfl, rfl⟩
    · have h : (!(xk == yk && (xd == yd && true))) = false := by assumption
      rw [Bool.not_eq_false'] at h
      refine rE (ih r2 (d1 ++ [⟨xc, ⟨xk, xd⟩⟩]) (d2 ++ [⟨yc, ⟨yk, yd⟩⟩]) _ ?_ ?_ ?_ ?_ ?_ ?_)
      · simp [g1]
      · simp [g2]
      · rw [wrap_ok (by omega) (by omega)]; simp [hj]
      · rw [wrap_ok (by omega) (by omega)]; simp [hj2]
      · simpa using hr
      · rw [hs, pw, hxy, h, h1]; rfl
    · exact ⟨by rw [hs, pw, hxy, h1, Bool.and_false]; rfl, rfl⟩
theorem pw_refl {α : Type} {f : α → α → Bool} (h : ∀ x, f x x = true) : ∀ l : List α, pw f l l = true
  | [] => rfl
  | x :: l => by rw [pw, h, pw_refl h l]; rfl
theorem Half.eqb_refl (x : Half) : Half.eqb x x = true := by simp [Half.eqb]
theorem Stp.eqb_refl (x : Stp) : Stp.eqb x x = true := by
  rw [Stp.eqb, pw_refl (pw_refl Half.eqb_refl)]; simp [Act.eq2]
theorem sameSpansR (a : List Span) (hla : a.length < 2 ^ 60) (hok : ∀ c ∈ a, good c.steps) : Comp Try.prog 16 [lst Span.row a, lst Span.row a] (bool true) := by
  refine Spec.body (C := cx [] 68) fits (fn := Try.f16) Try.func16 rfl (by decide) (by decide) (gI ?_)
  repeat' (first
    | ((first | refine gC fits mixed ?_ | refine gC0 fits mixed ?_ | refine gO fits mixed ?_ | refine gR fits mixed ?_); (conv => whnf); first | (refine ⟨fun hb => ?_, fun hb => ?_⟩ <;> try first | (simp only [Bool.not_true, Bool.not_false, Bool.true_eq_false, Bool.false_eq_true, reduceCtorEq] at hb; done) | exact Bool.noConfusion (hb.symm.trans (by assumption) : true = false) | exact Bool.noConfusion (hb.symm.trans (by assumption) : false = true) | (simp only [decide_eq_true_eq, decide_eq_false_iff_not, beq_iff_eq, beq_eq_false_iff_ne, bne_iff_ne, bne_eq_false_iff_eq, ne_eq, List.length_map, List.length_cons, List.length_nil, List.length_append, Bool.not_eq_true', Bool.not_eq_false'] at hb; exfalso; omega) | (exfalso; simp [ba_beq, IntKind.wrap, IntKind.bits, IntKind.signed] at hb; done)) | (show W _ _ _ _ _) | (show ∀ k, WL _ _ _ k _ _ _) | (show ∀ k, DL _ _ _ k _ _ _ _) | (show RoundEnd _ _ _ _ _) | refine fR ?_ | refine fRk ?_ | (show _ ∧ Go.Am.Fin _ _ _ _ _ _))
    | (show ∀ k, WL _ _ _ k _ _ _; first | refine fun k => lSA fits (oW ?_ _) | refine fun k => lL fits (oW ?_ _) | refine fun k => lQ fits (oW ?_ _) | refine fun k => lX fits (oW ?_ _) | refine fun k => lXa fits (oW ?_ _) | refine fun k => lXs fits (oW ?_ _) | refine fun k => lK fits (oW ?_ _) | refine fun k => lKa fits (oW ?_ _) | refine fun k => lLk fits (oW ?_ _) | refine fun k => lUp fits (oW ?_ _) | refine fun k => lDel fits (oW ?_ _) | refine fun k => lSt fits (oW ?_ _) | refine fun k => lLU fits (oW ?_ _) | refine fun k => lXw fits (oW ?_ _) | refine fun k => lLe fits (oW ?_ _) | refine fun k => lSe fits (oW ?_ _) | refine fun k => lM fits (oW ?_ _) | refine fun k => lA fits (oW ?_ _) | refine fun k => lA0 fits (oW ?_ _) | refine fun k => lA1 fits (oW ?_ _) | refine fun k => lMk fits (oW ?_ _) | refine fun k => lW fits (oW ?_ _))
    | (show ∀ k, DL _ _ _ k _ _ _ _; first | refine fun k => dSA fits (oD ?_ _) | refine fun k => dL fits (oD ?_ _) | refine fun k => dQ fits (oD ?_ _) | refine fun k => dX fits (oD ?_ _) | refine fun k => dXs fits (oD ?_ _) | refine fun k => dK fits (oD ?_ _) | refine fun k => dKa fits (oD ?_ _) | refine fun k => dLk fits (oD ?_ _) | refine fun k => dUp fits (oD ?_ _) | refine fun k => dA fits (oD ?_ _) | refine fun k => dA0 fits (oD ?_ _) | refine fun k => dSt fits (oD ?_ _) | refine fun k => dLU fits (oD ?_ _) | refine fun k => dXw fits (oD ?_ _) | refine fun k => dLe fits (oD ?_ _) | refine fun k => dSe fits (oD ?_ _) | refine fun k => dM fits (oD ?_ _) | refine fun k => dN fits (oD ?_ _) | refine fun k => dW fits (oD ?_ _)))
  refine wLoop [0, 1, 5] 0 (a.length + 1) ?_
  refine (fun key => key a [] _ rfl rfl : (∀ (r1 d1 : List Span) (j : Int), a = d1 ++ r1 → j = d1.length →
    WR2 _ _ _ _ _ (r1.length + 1) [(0, lst Span.row a), (1, lst Span.row a), (5, int .i64 j)] []) → _) ?_
  intro r1
  induction r1 with
  | nil =>
    intro d1 j g1 hj
    have hlen : a.length = d1.length := by rw [g1]; simp
    refine wR (gI ?_)
    repeat' (first
    | ((first | refine gC fits mixed ?_ | refine gC0 fits mixed ?_ | refine gO fits mixed ?_ | refine gR fits mixed ?_); (conv => whnf); first | (refine ⟨fun hb => ?_, fun hb => ?_⟩ <;> try first | (simp only [Bool.not_true, Bool.not_false, Bool.true_eq_false, Bool.false_eq_true, reduceCtorEq] at hb; done) | exact Bool.noConfusion (hb.symm.trans (by assumption) : true = false) | exact Bool.noConfusion (hb.symm.trans (by assumption) : false = true) | (simp only [decide_eq_true_eq, decide_eq_false_iff_not, beq_iff_eq, beq_eq_false_iff_ne, bne_iff_ne, bne_eq_false_iff_eq, ne_eq, List.length_map, List.length_cons, List.length_nil, List.length_append, Bool.not_eq_true', Bool.not_eq_false'] at hb; exfalso; omega) | (exfalso; simp [ba_beq, IntKind.wrap, IntKind.bits, IntKind.signed] at hb; done)) | (show W _ _ _ _ _) | (show ∀ k, WL _ _ _ k _ _ _) | (show ∀ k, DL _ _ _ k _ _ _ _) | (show RoundEnd _ _ _ _ _) | refine fR ?_ | refine fRk ?_ | (show _ ∧ Go.Am.Fin _ _ _ _ _ _))
    | (show ∀ k, WL _ _ _ k _ _ _; first | refine fun k => lSA fits (oW ?_ _) | refine fun k => lL fits (oW ?_ _) | refine fun k => lQ fits (oW ?_ _) | refine fun k => lX fits (oW ?_ _) | refine fun k => lXa fits (oW ?_ _) | refine fun k => lXs fits (oW ?_ _) | refine fun k => lK fits (oW ?_ _) | refine fun k => lKa fits (oW ?_ _) | refine fun k => lLk fits (oW ?_ _) | refine fun k => lUp fits (oW ?_ _) | refine fun k => lDel fits (oW ?_ _) | refine fun k => lSt fits (oW ?_ _) | refine fun k => lLU fits (oW ?_ _) | refine fun k => lXw fits (oW ?_ _) | refine fun k => lLe fits (oW ?_ _) | refine fun k => lSe fits (oW ?_ _) | refine fun k => lM fits (oW ?_ _) | refine fun k => lA fits (oW ?_ _) | refine fun k => lA0 fits (oW ?_ _) | refine fun k => lA1 fits (oW ?_ _) | refine fun k => lMk fits (oW ?_ _) | refine fun k => lW fits (oW ?_ _))
    | (show ∀ k, DL _ _ _ k _ _ _ _; first | refine fun k => dSA fits (oD ?_ _) | refine fun k => dL fits (oD ?_ _) | refine fun k => dQ fits (oD ?_ _) | refine fun k => dX fits (oD ?_ _) | refine fun k => dXs fits (oD ?_ _) | refine fun k => dK fits (oD ?_ _) | refine fun k => dKa fits (oD ?_ _) | refine fun k => dLk fits (oD ?_ _) | refine fun k => dUp fits (oD ?_ _) | refine fun k => dA fits (oD ?_ _) | refine fun k => dA0 fits (oD ?_ _) | refine fun k => dSt fits (oD ?_ _) | refine fun k => dLU fits (oD ?_ _) | refine fun k => dXw fits (oD ?_ _) | refine fun k => dLe fits (oD ?_ _) | refine fun k => dSe fits (oD ?_ _) | refine fun k => dM fits (oD ?_ _) | refine fun k => dN fits (oD ?_ _) | refine fun k => dW fits (oD ?_ _)))
    exact ⟨rfl, rfl⟩
  | cons x r1 ih =>
    intro d1 j g1 hj
    have hlen : a.length = d1.length + (r1.length + 1) := by rw [g1]; simp
    have hx := hok x (by rw [g1]; simp)
    have hc := sameStepsR x.steps x.steps hx.1 hx.2
    rw [pw_refl Stp.eqb_refl] at hc
    have b1 : (!(x.lo == x.lo)) = false := by simp
    have b2 : (!(x.hi == x.hi)) = false := by simp
    have b3 : (!(x.act.kind == x.act.kind && (x.act.data == x.act.data && true))) = false := by simp
    obtain ⟨x1, x2, xc, ⟨xk, xd⟩⟩ := x
    refine wR (gI ?_)
    repeat' (first
    | ((first | refine gC fits mixed ?_ | refine gC0 fits mixed ?_ | refine gO fits mixed ?_ | refine gR fits mixed ?_); (conv => whnf); first | (refine ⟨fun hb => ?_, fun hb => ?_⟩ <;> try first | (simp only [Bool.not_true, Bool.not_false, Bool.true_eq_false, Bool.false_eq_true, reduceCtorEq] at hb; done) | exact Bool.noConfusion (hb.symm.trans (by assumption) : true = false) | exact Bool.noConfusion (hb.symm.trans (by assumption) : false = true) | (simp only [decide_eq_true_eq, decide_eq_false_iff_not, beq_iff_eq, beq_eq_false_iff_ne, bne_iff_ne, bne_eq_false_iff_eq, ne_eq, List.length_map, List.length_cons, List.length_nil, List.length_append, Bool.not_eq_true', Bool.not_eq_false'] at hb; exfalso; omega) | (exfalso; simp [ba_beq, IntKind.wrap, IntKind.bits, IntKind.signed] at hb; done)) | (show W _ _ _ _ _) | (show ∀ k, WL _ _ _ k _ _ _) | (show ∀ k, DL _ _ _ k _ _ _ _) | (show RoundEnd _ _ _ _ _) | refine fR ?_ | refine fRk ?_ | (show _ ∧ Go.Am.Fin _ _ _ _ _ _))
    | (show ∀ k, WL _ _ _ k _ _ _; first | refine fun k => lC (hc) (oW ?_ _) | refine fun k => lSA fits (oW ?_ _) | refine fun k => lL fits (oW ?_ _) | refine fun k => lQ fits (oW ?_ _) | refine fun k => lX fits (oW ?_ _) | refine fun k => lXa fits (oW ?_ _) | refine fun k => lXs fits (oW ?_ _) | refine fun k => lK fits (oW ?_ _) | refine fun k => lKa fits (oW ?_ _) | refine fun k => lLk fits (oW ?_ _) | refine fun k => lUp fits (oW ?_ _) | refine fun k => lDel fits (oW ?_ _) | refine fun k => lSt fits (oW ?_ _) | refine fun k => lLU fits (oW ?_ _) | refine fun k => lXw fits (oW ?_ _) | refine fun k => lLe fits (oW ?_ _) | refine fun k => lSe fits (oW ?_ _) | refine fun k => lM fits (oW ?_ _) | refine fun k => lA fits (oW ?_ _) | refine fun k => lA0 fits (oW ?_ _) | refine fun k => lA1 fits (oW ?_ _) | refine fun k => lMk fits (oW ?_ _) | refine fun k => lW fits (oW ?_ _))
    | (show ∀ k, DL _ _ _ k _ _ _ _; first | refine fun k => dC (hc) (oD ?_ _) | refine fun k => dSA fits (oD ?_ _) | refine fun k => dL fits (oD ?_ _) | refine fun k => dQ fits (oD ?_ _) | refine fun k => dX fits (oD ?_ _) | refine fun k => dXs fits (oD ?_ _) | refine fun k => dK fits (oD ?_ _) | refine fun k => dKa fits (oD ?_ _) | refine fun k => dLk fits (oD ?_ _) | refine fun k => dUp fits (oD ?_ _) | refine fun k => dA fits (oD ?_ _) | refine fun k => dA0 fits (oD ?_ _) | refine fun k => dSt fits (oD ?_ _) | refine fun k => dLU fits (oD ?_ _) | refine fun k => dXw fits (oD ?_ _) | refine fun k => dLe fits (oD ?_ _) | refine fun k => dSe fits (oD ?_ _) | refine fun k => dM fits (oD ?_ _) | refine fun k => dN fits (oD ?_ _) | refine fun k => dW fits (oD ?_ _)))
    refine rE (ih (d1 ++ [⟨x1, x2, xc, ⟨xk, xd⟩⟩]) _ (by simp [g1]) ?_)
    rw [wrap_ok (by omega) (by omega)]; simp [hj]
theorem addRefR (ep : Nat) (l : List Span) (x : Span) (hl : l.length ≤ 1000) (hs : ∀ y ∈ l, good y.steps) : Am.Spec Try.prog 39 [.one (.arr 0 ep (l.map Span.row).length), .agg (x.row.map .d)] [.arr ep true 5 (l.map Span.row)]
    (fun v s => v = .one (.arr 0 ep ((addF l x).map Span.row).length) ∧ s = [.arr ep true 5 ((addF l x).map Span.row)]) := by
  rcases List.eq_nil_or_concat l with rfl | ⟨ls, y, rfl⟩
  · obtain ⟨x1, x2, xc, ⟨xk, xd⟩⟩ := x
    refine Spec.body (C := cx [] 44) fits (fn := Try.f39) Try.func39 rfl (by decide) (by decide) (gI ?_)
    repeat' (first
    | refine fRk ?_
    | ((first | refine gC fits mixed ?_ | refine gC0 fits mixed ?_ | refine gO fits mixed ?_ | refine gR fits mixed ?_); (conv => whnf); first | (refine ⟨fun hb => ?_, fun hb => ?_⟩ <;> try first | (simp only [Bool.not_true, Bool.not_false, Bool.true_eq_false, Bool.false_eq_true, reduceCtorEq] at hb; done) | exact Bool.noConfusion (hb.symm.trans (by assumption) : true = false) | exact Bool.noConfusion (hb.symm.trans (by assumption) : false = true) | (simp only [decide_eq_true_eq, decide_eq_false_iff_not, beq_iff_eq, beq_eq_false_iff_ne, bne_iff_ne, bne_eq_false_iff_eq, ne_eq, List.length_map, List.length_cons, List.length_nil, List.length_append, Bool.not_eq_true', Bool.not_eq_false'] at hb; exfalso; omega) | (exfalso; simp [ba_beq, IntKind.wrap, IntKind.bits, IntKind.signed] at hb; done)) | (show W _ _ _ _ _) | (show ∀ k, WL _ _ _ k _ _ _) | (show ∀ k, DL _ _ _ k _ _ _ _) | (show RoundEnd _ _ _ _ _) | refine fR ?_ | refine fRk ?_ | (show _ ∧ Go.Am.Fin _ _ _ _ _ _))
    | (show ∀ k, WL _ _ _ k _ _ _; first | refine fun k => lSA fits (oW ?_ _) | refine fun k => lL fits (oW ?_ _) | refine fun k => lQ fits (oW ?_ _) | refine fun k => lX fits (oW ?_ _) | refine fun k => lXa fits (oW ?_ _) | refine fun k => lXs fits (oW ?_ _) | refine fun k => lK fits (oW ?_ _) | refine fun k => lKa fits (oW ?_ _) | refine fun k => lLk fits (oW ?_ _) | refine fun k => lUp fits (oW ?_ _) | refine fun k => lDel fits (oW ?_ _) | refine fun k => lSt fits (oW ?_ _) | refine fun k => lLU fits (oW ?_ _) | refine fun k => lXw fits (oW ?_ _) | refine fun k => lLe fits (oW ?_ _) | refine fun k => lSe fits (oW ?_ _) | refine fun k => lM fits (oW ?_ _) | refine fun k => lA fits (oW ?_ _) | refine fun k => lA0 fits (oW ?_ _) | refine fun k => lA1 fits (oW ?_ _) | refine fun k => lMk fits (oW ?_ _) | refine fun k => lW fits (oW ?_ _))
    | (show ∀ k, DL _ _ _ k _ _ _ _; first | refine fun k => dSA fits (oD ?_ _) | refine fun k => dL fits (oD ?_ _) | refine fun k => dQ fits (oD ?_ _) | refine fun k => dX fits (oD ?_ _) | refine fun k => dXs fits (oD ?_ _) | refine fun k => dK fits (oD ?_ _) | refine fun k => dKa fits (oD ?_ _) | refine fun k => dLk fits (oD ?_ _) | refine fun k => dUp fits (oD ?_ _) | refine fun k => dA fits (oD ?_ _) | refine fun k => dA0 fits (oD ?_ _) | refine fun k => dSt fits (oD ?_ _) | refine fun k => dLU fits (oD ?_ _) | refine fun k => dXw fits (oD ?_ _) | refine fun k => dLe fits (oD ?_ _) | refine fun k => dSe fits (oD ?_ _) | refine fun k => dM fits (oD ?_ _) | refine fun k => dN fits (oD ?_ _) | refine fun k => dW fits (oD ?_ _)))
    all_goals exact ⟨rfl, rfl⟩
  · rw [List.concat_eq_append] at *
    have hy := hs y (by simp)
    have hc := sameStepsR y.steps x.steps hy.1 hy.2
    have hlen : ((ls ++ [y]).map Span.row).length = ls.length + 1 := by simp
    have hl2 : ls.length + 1 ≤ 1000 := by simpa using hl
    have hj : IntKind.wrap .i64 ((((ls ++ [y]).map Span.row).length : Int) - 1) = ls.length := by
      rw [wrap_ok (by omega) (by omega)]; omega
    have hj0 : 0 ≤ IntKind.wrap .i64 ((((ls ++ [y]).map Span.row).length : Int) - 1) := by omega
    have hrow : ((ls ++ [y]).map Span.row)[(IntKind.wrap .i64 ((((ls ++ [y]).map Span.row).length : Int) - 1)).toNat]? = some y.row := by rw [hj]; simp
    rw [addF_last]
    have hxy : Span.like y x = ((y.act.kind == x.act.kind && (y.act.data == x.act.data && true)) && pw Stp.eqb y.steps x.steps) := rfl
    obtain ⟨x1, x2, xc, ⟨xk, xd⟩⟩ := x
    obtain ⟨y1, y2, yc, ⟨yk, yd⟩⟩ := y
    simp only at hxy
    refine Spec.body (C := cx [] 44) fits (fn := Try.f39) Try.func39 rfl (by decide) (by decide) (gI ?_)
    repeat' (first
    | refine fRk ?_
    | ((first | refine gC fits mixed ?_ | refine gC0 fits mixed ?_ | refine gO fits mixed ?_ | refine gR fits mixed ?_); (conv => whnf); first | (refine ⟨fun hb => ?_, fun hb => ?_⟩ <;> try first | (simp only [Bool.not_true, Bool.not_false, Bool.true_eq_false, Bool.false_eq_true, reduceCtorEq] at hb; done) | exact Bool.noConfusion (hb.symm.trans (by assumption) : true = false) | exact Bool.noConfusion (hb.symm.trans (by assumption) : false = true) | (simp only [decide_eq_true_eq, decide_eq_false_iff_not, beq_iff_eq, beq_eq_false_iff_ne, bne_iff_ne, bne_eq_false_iff_eq, ne_eq, List.length_map, List.length_cons, List.length_nil, List.length_append, Bool.not_eq_true', Bool.not_eq_false'] at hb; exfalso; omega) | (exfalso; simp [ba_beq, IntKind.wrap, IntKind.bits, IntKind.signed] at hb; done)) | (show W _ _ _ _ _) | (show ∀ k, WL _ _ _ k _ _ _) | (show ∀ k, DL _ _ _ k _ _ _ _) | (show RoundEnd _ _ _ _ _) | refine fR ?_ | refine fRk ?_ | (show _ ∧ Go.Am.Fin _ _ _ _ _ _))
    | (show ∀ k, WL _ _ _ k _ _ _; first | (refine fun k => lCB (hc) (fun h1 => oW ?_ _) (fun h1 => oW ?_ _)) | refine fun k => lSA fits (oW ?_ _) | refine fun k => lL fits (oW ?_ _) | refine fun k => lQ fits (oW ?_ _) | refine fun k => lX fits (oW ?_ _) | refine fun k => lXa fits (oW ?_ _) | refine fun k => lXs fits (oW ?_ _) | refine fun k => lK fits (oW ?_ _) | refine fun k => lKa fits (oW ?_ _) | refine fun k => lLk fits (oW ?_ _) | refine fun k => lUp fits (oW ?_ _) | refine fun k => lDel fits (oW ?_ _) | refine fun k => lSt fits (oW ?_ _) | refine fun k => lLU fits (oW ?_ _) | refine fun k => lXw fits (oW ?_ _) | refine fun k => lLe fits (oW ?_ _) | refine fun k => lSe fits (oW ?_ _) | refine fun k => lM fits (oW ?_ _) | refine fun k => lA fits (oW ?_ _) | refine fun k => lA0 fits (oW ?_ _) | refine fun k => lA1 fits (oW ?_ _) | refine fun k => lMk fits (oW ?_ _) | refine fun k => lW fits (oW ?_ _))
    | (show ∀ k, DL _ _ _ k _ _ _ _; first | (refine fun k => dCB (hc) (fun h1 => oD ?_ _) (fun h1 => oD ?_ _)) | refine fun k => dSA fits (oD ?_ _) | refine fun k => dL fits (oD ?_ _) | refine fun k => dQ fits (oD ?_ _) | refine fun k => dX fits (oD ?_ _) | refine fun k => dXs fits (oD ?_ _) | refine fun k => dK fits (oD ?_ _) | refine fun k => dKa fits (oD ?_ _) | refine fun k => dLk fits (oD ?_ _) | refine fun k => dUp fits (oD ?_ _) | refine fun k => dA fits (oD ?_ _) | refine fun k => dA0 fits (oD ?_ _) | refine fun k => dSt fits (oD ?_ _) | refine fun k => dLU fits (oD ?_ _) | refine fun k => dXw fits (oD ?_ _) | refine fun k => dLe fits (oD ?_ _) | refine fun k => dSe fits (oD ?_ _) | refine fun k => dM fits (oD ?_ _) | refine fun k => dN fits (oD ?_ _) | refine fun k => dW fits (oD ?_ _)))
    · have h : (yk == xk && (yd == xd && true)) = true := by assumption
      have h2 : pw Stp.eqb yc xc = true := h1
      rw [hxy, h, h2, Bool.and_self, if_pos rfl]
      have hset : ∀ r, List.set ((ls ++ [(⟨y1, y2, yc, ⟨yk, yd⟩⟩ : Span)]).map Span.row) (IntKind.wrap .i64 ((((ls ++ [(⟨y1, y2, yc, ⟨yk, yd⟩⟩ : Span)]).map Span.row).length : Int) - 1)).toNat r = ls.map Span.row ++ [r] := by
        intro r; rw [hj]; simp [List.set_append]
      exact ⟨by simp, congrArg (fun z => [Ob.arr ep true 5 z]) ((hset _).trans (by rw [List.map_append]; rfl))⟩
    · have h2 : pw Stp.eqb yc xc = false := h1
      rw [hxy, h2, Bool.and_false, if_neg (by simp)]
      have e : ∀ z : Span, ((ls ++ [(⟨y1, y2, yc, ⟨yk, yd⟩⟩ : Span)]) ++ [z]).map Span.row = (ls ++ [(⟨y1, y2, yc, ⟨yk, yd⟩⟩ : Span)]).map Span.row ++ [Span.row z] := fun z => List.map_append
      rw [e]
      exact ⟨rfl, rfl⟩
    · have h : (yk == xk && (yd == xd && true)) = false := by assumption
      rw [hxy, h, Bool.false_and, if_neg (by simp)]
      have e : ∀ z : Span, ((ls ++ [(⟨y1, y2, yc, ⟨yk, yd⟩⟩ : Span)]) ++ [z]).map Span.row = (ls ++ [(⟨y1, y2, yc, ⟨yk, yd⟩⟩ : Span)]).map Span.row ++ [Span.row z] := fun z => List.map_append
      rw [e]
      exact ⟨rfl, rfl⟩
    all_goals
      exfalso
      have h := of_decide_eq_false hb
      rw [hlen] at h
      omega
end Go.Proofs.Ytceccgnpkelpkaa
