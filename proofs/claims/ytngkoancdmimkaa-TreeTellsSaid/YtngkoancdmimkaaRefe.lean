/- A part of a proof: functions of the program, walked over the abstract machine. -/
import Derived.Test.YtngkoancdmimkaaEqs
set_option linter.unusedVariables false
set_option linter.unusedSimpArgs false
namespace Go.Proofs.Ytngkoancdmimkaa
open Go Go.Am Go.Proofs
attribute [local irreducible] W WL DL WO RoundEnd
set_option maxRecDepth 10000
set_option maxHeartbeats 4000000
theorem sameUnD (a b : Un) (h : a.ok) : Comp Try.prog 19 [.agg a.cells, .agg b.cells] (bool (a.eqb b)) := by
  have c3 := sameR a.main b.main h.2.2.2.2
  generalize hfb : a.eqb b = fb
  rw [Un.eqb] at hfb
  obtain ⟨hdl, hd, hpl, hp, hml⟩ := h
  obtain ⟨ds, ps, ms, ⟨dk, dd⟩⟩ := a
  obtain ⟨ds', ps', ms', ⟨dk', dd'⟩⟩ := b
  simp only at hdl hd hpl hp hml hfb
  refine Spec.body (C := cx [] 110) fits (fn := Try.f19) Try.func19 rfl (by decide) (by decide) (gI ?_)
  repeat' (first
    | ((first | refine gC fits mixed ?_ | refine gC0 fits mixed ?_ | refine gO fits mixed ?_ | refine gR fits mixed ?_); (conv => whnf); first | (refine ⟨fun hb => ?_, fun hb => ?_⟩ <;> try first | (simp only [Bool.not_true, Bool.not_false, Bool.true_eq_false, Bool.false_eq_true, reduceCtorEq] at hb; done) | exact Bool.noConfusion (hb.symm.trans (by assumption) : true = false) | exact Bool.noConfusion (hb.symm.trans (by assumption) : false = true) | (simp only [decide_eq_true_eq, decide_eq_false_iff_not, beq_iff_eq, beq_eq_false_iff_ne, bne_iff_ne, bne_eq_false_iff_eq, ne_eq, List.length_map, List.length_cons, List.length_nil, List.length_append, Bool.not_eq_true', Bool.not_eq_false'] at hb; exfalso; omega) | (exfalso; simp [ba_beq, IntKind.wrap, IntKind.bits, IntKind.signed] at hb; done)) | (show W _ _ _ _ _) | (show ∀ k, WL _ _ _ k _ _ _) | (show ∀ k, DL _ _ _ k _ _ _ _) | (show RoundEnd _ _ _ _ _) | refine fR ?_ | (show _ ∧ Go.Am.Fin _ _ _ _ _ _))
    | (show ∀ k, WL _ _ _ k _ _ _; first | (refine fun k => lCB (c3) (fun g3 => oW ?_ _) (fun g3 => oW ?_ _)) | refine fun k => lSA fits (oW ?_ _) | refine fun k => lL fits (oW ?_ _) | refine fun k => lQ fits (oW ?_ _) | refine fun k => lX fits (oW ?_ _) | refine fun k => lXa fits (oW ?_ _) | refine fun k => lXs fits (oW ?_ _) | refine fun k => lK fits (oW ?_ _) | refine fun k => lKa fits (oW ?_ _) | refine fun k => lLk fits (oW ?_ _) | refine fun k => lUp fits (oW ?_ _) | refine fun k => lDel fits (oW ?_ _) | refine fun k => lSt fits (oW ?_ _) | refine fun k => lLU fits (oW ?_ _) | refine fun k => lM fits (oW ?_ _) | refine fun k => lA fits (oW ?_ _) | refine fun k => lA0 fits (oW ?_ _) | refine fun k => lA1 fits (oW ?_ _) | refine fun k => lMk fits (oW ?_ _) | refine fun k => lW fits (oW ?_ _))
    | (show ∀ k, DL _ _ _ k _ _ _ _; first | (refine fun k => dCB (c3) (fun g3 => oD ?_ _) (fun g3 => oD ?_ _)) | refine fun k => dSA fits (oD ?_ _) | refine fun k => dL fits (oD ?_ _) | refine fun k => dQ fits (oD ?_ _) | refine fun k => dX fits (oD ?_ _) | refine fun k => dXs fits (oD ?_ _) | refine fun k => dK fits (oD ?_ _) | refine fun k => dKa fits (oD ?_ _) | refine fun k => dLk fits (oD ?_ _) | refine fun k => dUp fits (oD ?_ _) | refine fun k => dA fits (oD ?_ _) | refine fun k => dA0 fits (oD ?_ _) | refine fun k => dSt fits (oD ?_ _) | refine fun k => dLU fits (oD ?_ _) | refine fun k => dM fits (oD ?_ _) | refine fun k => dN fits (oD ?_ _) | refine fun k => dW fits (oD ?_ _)))
  · have hne : ds.length ≠ ds'.length := by simp at hb; omega
    exact ⟨by rw [← hfb, pw_len hne]; rfl, rfl⟩
  · have hne : ps.length ≠ ps'.length := by simp at hb; omega
    exact ⟨by rw [← hfb, pw_len hne, Bool.false_and, Bool.and_false]; rfl, rfl⟩
  · have ha : (dk == dk' && (dd == dd' && true)) = false := by
      have h : (!(dk == dk' && (dd == dd' && true))) = true := hb
      rwa [Bool.not_eq_true'] at h
    exact ⟨by rw [← hfb, ha, Bool.and_false, Bool.and_false, Bool.and_false]; rfl, rfl⟩
  rotate_left
  · exact ⟨by rw [← hfb, g3, Bool.false_and, Bool.and_false, Bool.and_false]; rfl, rfl⟩
  have ha : (dk == dk' && (dd == dd' && true)) = true := by
    have h : (!(dk == dk' && (dd == dd' && true))) = false := hb
    rwa [Bool.not_eq_false'] at h
  have hl1 : ds.length = ds'.length := by
    have h : (!(((ds.map Def.row).length : Int) == ((ds'.map Def.row).length : Int))) = false := by assumption
    simp at h; omega
  have hl2 : ps.length = ps'.length := by
    have h : (!(((ps.map Pol.row).length : Int) == ((ps'.map Pol.row).length : Int))) = false := by assumption
    simp at h; omega
  rw [g3, ha, Bool.and_true, Bool.and_true] at hfb
  refine wLoop [2, 3, 5] 2 (ds.length + 1) ?_
  refine (fun key => key ds ds' [] [] _ rfl rfl rfl rfl hl1 hfb.symm : (∀ (r1 r2 d1 d2 : List Def) (j : Int), ds = d1 ++ r1 → ds' = d2 ++ r2 → j = d1.length → j = d2.length → r1.length = r2.length → fb = (pw Def.eqb r1 r2 && pw Pol.eqb ps ps') →
    WR2 _ _ _ _ _ (r1.length + 1) [(2, .one (.ptr 0 0)), (3, .one (.ptr 1 0)), (5, int .i64 j)] [.var [.d (.list (ds.map Def.row)), .d (.list (ps.map Pol.row)), .d (.list (ms.map strow)), .d (.sc (.int .i64 dk)), .d (.sc (.int .i64 dd))], .var [.d (.list (ds'.map Def.row)), .d (.list (ps'.map Pol.row)), .d (.list (ms'.map strow)), .d (.sc (.int .i64 dk')), .d (.sc (.int .i64 dd'))]]) → _) ?_
  intro r1
  induction r1 with
  | cons x r1 ih =>
    intro r2 d1 d2 j g1 g2 hj hj2 hr hs
    rcases r2 with _ | ⟨y, r2⟩
    · simp at hr
    have hlen : ds.length = d1.length + (r1.length + 1) := by rw [g1]; simp
    have c4 := sameE _ x.expr y.expr (Nat.lt_succ_self _) (hd x (by rw [g1]; simp))
    have hx : Def.eqb x y = (x.name == y.name && x.expr.eqb y.expr) := rfl
    rw [pw, hx] at hs
    obtain ⟨xn, ⟨xk, xo, xm, xu, xl⟩⟩ := x
    obtain ⟨yn, ⟨yk, yo, ym, yu, yl⟩⟩ := y
    refine wR (gI ?_)
    repeat' (first
    | ((first | refine gC fits mixed ?_ | refine gC0 fits mixed ?_ | refine gO fits mixed ?_ | refine gR fits mixed ?_); (conv => whnf); first | (refine ⟨fun hb => ?_, fun hb => ?_⟩ <;> try first | (simp only [Bool.not_true, Bool.not_false, Bool.true_eq_false, Bool.false_eq_true, reduceCtorEq] at hb; done) | exact Bool.noConfusion (hb.symm.trans (by assumption) : true = false) | exact Bool.noConfusion (hb.symm.trans (by assumption) : false = true) | (simp only [decide_eq_true_eq, decide_eq_false_iff_not, beq_iff_eq, beq_eq_false_iff_ne, bne_iff_ne, bne_eq_false_iff_eq, ne_eq, List.length_map, List.length_cons, List.length_nil, List.length_append, Bool.not_eq_true', Bool.not_eq_false'] at hb; exfalso; omega) | (exfalso; simp [ba_beq, IntKind.wrap, IntKind.bits, IntKind.signed] at hb; done)) | (show W _ _ _ _ _) | (show ∀ k, WL _ _ _ k _ _ _) | (show ∀ k, DL _ _ _ k _ _ _ _) | (show RoundEnd _ _ _ _ _) | refine fR ?_ | (show _ ∧ Go.Am.Fin _ _ _ _ _ _))
    | (show ∀ k, WL _ _ _ k _ _ _; first | (refine fun k => lCB (c4) (fun g4 => oW ?_ _) (fun g4 => oW ?_ _)) | refine fun k => lSA fits (oW ?_ _) | refine fun k => lL fits (oW ?_ _) | refine fun k => lQ fits (oW ?_ _) | refine fun k => lX fits (oW ?_ _) | refine fun k => lXa fits (oW ?_ _) | refine fun k => lXs fits (oW ?_ _) | refine fun k => lK fits (oW ?_ _) | refine fun k => lKa fits (oW ?_ _) | refine fun k => lLk fits (oW ?_ _) | refine fun k => lUp fits (oW ?_ _) | refine fun k => lDel fits (oW ?_ _) | refine fun k => lSt fits (oW ?_ _) | refine fun k => lLU fits (oW ?_ _) | refine fun k => lM fits (oW ?_ _) | refine fun k => lA fits (oW ?_ _) | refine fun k => lA0 fits (oW ?_ _) | refine fun k => lA1 fits (oW ?_ _) | refine fun k => lMk fits (oW ?_ _) | refine fun k => lW fits (oW ?_ _))
    | (show ∀ k, DL _ _ _ k _ _ _ _; first | (refine fun k => dCB (c4) (fun g4 => oD ?_ _) (fun g4 => oD ?_ _)) | refine fun k => dSA fits (oD ?_ _) | refine fun k => dL fits (oD ?_ _) | refine fun k => dQ fits (oD ?_ _) | refine fun k => dX fits (oD ?_ _) | refine fun k => dXs fits (oD ?_ _) | refine fun k => dK fits (oD ?_ _) | refine fun k => dKa fits (oD ?_ _) | refine fun k => dLk fits (oD ?_ _) | refine fun k => dUp fits (oD ?_ _) | refine fun k => dA fits (oD ?_ _) | refine fun k => dA0 fits (oD ?_ _) | refine fun k => dSt fits (oD ?_ _) | refine fun k => dLU fits (oD ?_ _) | refine fun k => dM fits (oD ?_ _) | refine fun k => dN fits (oD ?_ _) | refine fun k => dW fits (oD ?_ _)))
    · have ha : (xn == yn) = false := by
        have h : (!(xn == yn)) = true := by assumption
        rwa [Bool.not_eq_true'] at h
      exact ⟨by rw [hs, ha]; rfl, rfl⟩
    · have ha : (xn == yn) = true := by
        have h : (!(xn == yn)) = false := by assumption
        rwa [Bool.not_eq_false'] at h
      refine rE (ih r2 (d1 ++ [⟨xn, Ex.mk xk xo xm xu xl⟩]) (d2 ++ [⟨yn, Ex.mk yk yo ym yu yl⟩]) _ (by simp [g1]) (by simp [g2]) ?_ ?_ (by simpa using hr) (by rw [hs, ha, g4]; rfl))
      · rw [wrap_ok (by omega) (by omega)]; simp [hj]
      · rw [wrap_ok (by omega) (by omega)]; simp [hj2]
    · have ha : (xn == yn) = true := by
        have h : (!(xn == yn)) = false := by assumption
        rwa [Bool.not_eq_false'] at h
      exact ⟨by rw [hs, ha, g4]; rfl, rfl⟩
  | nil =>
    intro r2 d1 d2 j g1 g2 hj hj2 hr hs
    have hlen : ds.length = d1.length := by rw [g1]; simp
    have : r2 = [] := List.length_eq_zero_iff.1 (by simpa using hr.symm)
    subst this
    rw [pw, Bool.true_and] at hs
    refine wR (gI ?_)
    repeat' (first
    | ((first | refine gC fits mixed ?_ | refine gC0 fits mixed ?_ | refine gO fits mixed ?_ | refine gR fits mixed ?_); (conv => whnf); first | (refine ⟨fun hb => ?_, fun hb => ?_⟩ <;> try first | (simp only [Bool.not_true, Bool.not_false, Bool.true_eq_false, Bool.false_eq_true, reduceCtorEq] at hb; done) | exact Bool.noConfusion (hb.symm.trans (by assumption) : true = false) | exact Bool.noConfusion (hb.symm.trans (by assumption) : false = true) | (simp only [decide_eq_true_eq, decide_eq_false_iff_not, beq_iff_eq, beq_eq_false_iff_ne, bne_iff_ne, bne_eq_false_iff_eq, ne_eq, List.length_map, List.length_cons, List.length_nil, List.length_append, Bool.not_eq_true', Bool.not_eq_false'] at hb; exfalso; omega) | (exfalso; simp [ba_beq, IntKind.wrap, IntKind.bits, IntKind.signed] at hb; done)) | (show W _ _ _ _ _) | (show ∀ k, WL _ _ _ k _ _ _) | (show ∀ k, DL _ _ _ k _ _ _ _) | (show RoundEnd _ _ _ _ _) | refine fR ?_ | (show _ ∧ Go.Am.Fin _ _ _ _ _ _))
    | (show ∀ k, WL _ _ _ k _ _ _; first | refine fun k => lSA fits (oW ?_ _) | refine fun k => lL fits (oW ?_ _) | refine fun k => lQ fits (oW ?_ _) | refine fun k => lX fits (oW ?_ _) | refine fun k => lXa fits (oW ?_ _) | refine fun k => lXs fits (oW ?_ _) | refine fun k => lK fits (oW ?_ _) | refine fun k => lKa fits (oW ?_ _) | refine fun k => lLk fits (oW ?_ _) | refine fun k => lUp fits (oW ?_ _) | refine fun k => lDel fits (oW ?_ _) | refine fun k => lSt fits (oW ?_ _) | refine fun k => lLU fits (oW ?_ _) | refine fun k => lM fits (oW ?_ _) | refine fun k => lA fits (oW ?_ _) | refine fun k => lA0 fits (oW ?_ _) | refine fun k => lA1 fits (oW ?_ _) | refine fun k => lMk fits (oW ?_ _) | refine fun k => lW fits (oW ?_ _))
    | (show ∀ k, DL _ _ _ k _ _ _ _; first | refine fun k => dSA fits (oD ?_ _) | refine fun k => dL fits (oD ?_ _) | refine fun k => dQ fits (oD ?_ _) | refine fun k => dX fits (oD ?_ _) | refine fun k => dXs fits (oD ?_ _) | refine fun k => dK fits (oD ?_ _) | refine fun k => dKa fits (oD ?_ _) | refine fun k => dLk fits (oD ?_ _) | refine fun k => dUp fits (oD ?_ _) | refine fun k => dA fits (oD ?_ _) | refine fun k => dA0 fits (oD ?_ _) | refine fun k => dSt fits (oD ?_ _) | refine fun k => dLU fits (oD ?_ _) | refine fun k => dM fits (oD ?_ _) | refine fun k => dN fits (oD ?_ _) | refine fun k => dW fits (oD ?_ _)))
    refine wLoop [2, 3, 6] 2 (ps.length + 1) ?_
    refine (fun key => key ps ps' [] [] _ rfl rfl rfl rfl hl2 hs : (∀ (r1 r2 d1 d2 : List Pol) (j : Int), ps = d1 ++ r1 → ps' = d2 ++ r2 → j = d1.length → j = d2.length → r1.length = r2.length → fb = pw Pol.eqb r1 r2 →
      WR2 _ _ _ _ _ (r1.length + 1) [(2, .one (.ptr 0 0)), (3, .one (.ptr 1 0)), (6, int .i64 j)] [.var [.d (.list (ds.map Def.row)), .d (.list (ps.map Pol.row)), .d (.list (ms.map strow)), .d (.sc (.int .i64 dk)), .d (.sc (.int .i64 dd))], .var [.d (.list (ds'.map Def.row)), .d (.list (ps'.map Pol.row)), .d (.list (ms'.map strow)), .d (.sc (.int .i64 dk')), .d (.sc (.int .i64 dd'))]]) → _) ?_
    intro r1
    induction r1 with
    | nil =>
      intro r2 d1 d2 j g1 g2 hj hj2 hr hs
      have hlen : ps.length = d1.length := by rw [g1]; simp
      have : r2 = [] := List.length_eq_zero_iff.1 (by simpa using hr.symm)
      subst this
      refine wR (gI ?_)
      repeat' (first
    | ((first | refine gC fits mixed ?_ | refine gC0 fits mixed ?_ | refine gO fits mixed ?_ | refine gR fits mixed ?_); (conv => whnf); first | (refine ⟨fun hb => ?_, fun hb => ?_⟩ <;> try first | (simp only [Bool.not_true, Bool.not_false, Bool.true_eq_false, Bool.false_eq_true, reduceCtorEq] at hb; done) | exact Bool.noConfusion (hb.symm.trans (by assumption) : true = false) | exact Bool.noConfusion (hb.symm.trans (by assumption) : false = true) | (simp only [decide_eq_true_eq, decide_eq_false_iff_not, beq_iff_eq, beq_eq_false_iff_ne, bne_iff_ne, bne_eq_false_iff_eq, ne_eq, List.length_map, List.length_cons, List.length_nil, List.length_append, Bool.not_eq_true', Bool.not_eq_false'] at hb; exfalso; omega) | (exfalso; simp [ba_beq, IntKind.wrap, IntKind.bits, IntKind.signed] at hb; done)) | (show W _ _ _ _ _) | (show ∀ k, WL _ _ _ k _ _ _) | (show ∀ k, DL _ _ _ k _ _ _ _) | (show RoundEnd _ _ _ _ _) | refine fR ?_ | (show _ ∧ Go.Am.Fin _ _ _ _ _ _))
    | (show ∀ k, WL _ _ _ k _ _ _; first | refine fun k => lSA fits (oW ?_ _) | refine fun k => lL fits (oW ?_ _) | refine fun k => lQ fits (oW ?_ _) | refine fun k => lX fits (oW ?_ _) | refine fun k => lXa fits (oW ?_ _) | refine fun k => lXs fits (oW ?_ _) | refine fun k => lK fits (oW ?_ _) | refine fun k => lKa fits (oW ?_ _) | refine fun k => lLk fits (oW ?_ _) | refine fun k => lUp fits (oW ?_ _) | refine fun k => lDel fits (oW ?_ _) | refine fun k => lSt fits (oW ?_ _) | refine fun k => lLU fits (oW ?_ _) | refine fun k => lM fits (oW ?_ _) | refine fun k => lA fits (oW ?_ _) | refine fun k => lA0 fits (oW ?_ _) | refine fun k => lA1 fits (oW ?_ _) | refine fun k => lMk fits (oW ?_ _) | refine fun k => lW fits (oW ?_ _))
    | (show ∀ k, DL _ _ _ k _ _ _ _; first | refine fun k => dSA fits (oD ?_ _) | refine fun k => dL fits (oD ?_ _) | refine fun k => dQ fits (oD ?_ _) | refine fun k => dX fits (oD ?_ _) | refine fun k => dXs fits (oD ?_ _) | refine fun k => dK fits (oD ?_ _) | refine fun k => dKa fits (oD ?_ _) | refine fun k => dLk fits (oD ?_ _) | refine fun k => dUp fits (oD ?_ _) | refine fun k => dA fits (oD ?_ _) | refine fun k => dA0 fits (oD ?_ _) | refine fun k => dSt fits (oD ?_ _) | refine fun k => dLU fits (oD ?_ _) | refine fun k => dM fits (oD ?_ _) | refine fun k => dN fits (oD ?_ _) | refine fun k => dW fits (oD ?_ _)))
      exact ⟨by rw [hs]; rfl, rfl⟩
    | cons x r1 ih =>
      intro r2 d1 d2 j g1 g2 hj hj2 hr hs
      rcases r2 with _ | ⟨y, r2⟩
      · simp at hr
      have hlen : ps.length = d1.length + (r1.length + 1) := by rw [g1]; simp
      have hxp := hp x (by rw [g1]; simp)
      have c4 := samePartsR x.parts y.parts hxp.1 hxp.2
      have hx : Pol.eqb x y = (x.name == y.name && pw Part.eqb x.parts y.parts) := rfl
      rw [pw, hx] at hs
      obtain ⟨xn, xp⟩ := x
      obtain ⟨yn, yp⟩ := y
      refine wR (gI ?_)
      repeat' (first
    | ((first | refine gC fits mixed ?_ | refine gC0 fits mixed ?_ | refine gO fits mixed ?_ | refine gR fits mixed ?_); (conv => whnf); first | (refine ⟨fun hb => ?_, fun hb => ?_⟩ <;> try first | (simp only [Bool.not_true, Bool.not_false, Bool.true_eq_false, Bool.false_eq_true, reduceCtorEq] at hb; done) | exact Bool.noConfusion (hb.symm.trans (by assumption) : true = false) | exact Bool.noConfusion (hb.symm.trans (by assumption) : false = true) | (simp only [decide_eq_true_eq, decide_eq_false_iff_not, beq_iff_eq, beq_eq_false_iff_ne, bne_iff_ne, bne_eq_false_iff_eq, ne_eq, List.length_map, List.length_cons, List.length_nil, List.length_append, Bool.not_eq_true', Bool.not_eq_false'] at hb; exfalso; omega) | (exfalso; simp [ba_beq, IntKind.wrap, IntKind.bits, IntKind.signed] at hb; done)) | (show W _ _ _ _ _) | (show ∀ k, WL _ _ _ k _ _ _) | (show ∀ k, DL _ _ _ k _ _ _ _) | (show RoundEnd _ _ _ _ _) | refine fR ?_ | (show _ ∧ Go.Am.Fin _ _ _ _ _ _))
    | (show ∀ k, WL _ _ _ k _ _ _; first | (refine fun k => lCB (c4) (fun g4 => oW ?_ _) (fun g4 => oW ?_ _)) | refine fun k => lSA fits (oW ?_ _) | refine fun k => lL fits (oW ?_ _) | refine fun k => lQ fits (oW ?_ _) | refine fun k => lX fits (oW ?_ _) | refine fun k => lXa fits (oW ?_ _) | refine fun k => lXs fits (oW ?_ _) | refine fun k => lK fits (oW ?_ _) | refine fun k => lKa fits (oW ?_ _) | refine fun k => lLk fits (oW ?_ _) | refine fun k => lUp fits (oW ?_ _) | refine fun k => lDel fits (oW ?_ _) | refine fun k => lSt fits (oW ?_ _) | refine fun k => lLU fits (oW ?_ _) | refine fun k => lM fits (oW ?_ _) | refine fun k => lA fits (oW ?_ _) | refine fun k => lA0 fits (oW ?_ _) | refine fun k => lA1 fits (oW ?_ _) | refine fun k => lMk fits (oW ?_ _) | refine fun k => lW fits (oW ?_ _))
    | (show ∀ k, DL _ _ _ k _ _ _ _; first | (refine fun k => dCB (c4) (fun g4 => oD ?_ _) (fun g4 => oD ?_ _)) | refine fun k => dSA fits (oD ?_ _) | refine fun k => dL fits (oD ?_ _) | refine fun k => dQ fits (oD ?_ _) | refine fun k => dX fits (oD ?_ _) | refine fun k => dXs fits (oD ?_ _) | refine fun k => dK fits (oD ?_ _) | refine fun k => dKa fits (oD ?_ _) | refine fun k => dLk fits (oD ?_ _) | refine fun k => dUp fits (oD ?_ _) | refine fun k => dA fits (oD ?_ _) | refine fun k => dA0 fits (oD ?_ _) | refine fun k => dSt fits (oD ?_ _) | refine fun k => dLU fits (oD ?_ _) | refine fun k => dM fits (oD ?_ _) | refine fun k => dN fits (oD ?_ _) | refine fun k => dW fits (oD ?_ _)))
      · have ha : (xn == yn) = false := by
          have h : (!(xn == yn)) = true := by assumption
          rwa [Bool.not_eq_true'] at h
        exact ⟨by rw [hs, ha]; rfl, rfl⟩
      · have ha : (xn == yn) = true := by
          have h : (!(xn == yn)) = false := by assumption
          rwa [Bool.not_eq_false'] at h
        refine rE (ih r2 (d1 ++ [⟨xn, xp⟩]) (d2 ++ [⟨yn, yp⟩]) _ (by simp [g1]) (by simp [g2]) ?_ ?_ (by simpa using hr) (by rw [hs, ha, g4]; rfl))
        · rw [wrap_ok (by omega) (by omega)]; simp [hj]
        · rw [wrap_ok (by omega) (by omega)]; simp [hj2]
      · have ha : (xn == yn) = true := by
          have h : (!(xn == yn)) = false := by assumption
          rwa [Bool.not_eq_false'] at h
        exact ⟨by rw [hs, ha, g4]; rfl, rfl⟩
end Go.Proofs.Ytngkoancdmimkaa
