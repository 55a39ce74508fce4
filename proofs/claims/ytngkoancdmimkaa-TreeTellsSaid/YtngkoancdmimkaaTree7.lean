/- A part of a proof: functions of the program, walked over the abstract machine. -/
import Derived.Test.YtngkoancdmimkaaFew3
import Derived.Test.YtngkoancdmimkaaRefd
import Derived.Test.YtngkoancdmimkaaRefe
import Derived.Test.YtngkoancdmimkaaTyped
set_option linter.unusedVariables false
set_option linter.unusedSimpArgs false
namespace Go.Proofs.Ytngkoancdmimkaa
open Go Go.Am Go.Proofs
attribute [local irreducible] W WL DL WO RoundEnd
set_option maxRecDepth 10000
set_option maxHeartbeats 4000000
theorem tells11 (s : ByteArray) (e : Ex) (u v : Un) : Comp Try.prog 4 [str s, .agg (e.row.map .d), .agg u.cells, .agg v.cells] (bool true) := by
  have c0 := alive11
  have c1 := fewR e
  have c2 := fewUnitR u
  have c3 := fewUnitR v
  by_cases hs : s.size ≤ 60
  rotate_left
  · obtain ⟨k1, o1, n1, u1, l1⟩ := e
    obtain ⟨ds, ps, ms, ⟨dk, dd⟩⟩ := u
    obtain ⟨ds', ps', ms', ⟨dk', dd'⟩⟩ := v
    refine Spec.body (C := cx [] 81) fits (fn := Try.f4) Try.func4 rfl (by decide) (by decide) (gI ?_)
    repeat' (first
    | ((first | refine gC fits mixed ?_ | refine gC0 fits mixed ?_ | refine gO fits mixed ?_ | refine gR fits mixed ?_); (conv => whnf); first | (refine ⟨fun hb => ?_, fun hb => ?_⟩ <;> try first | (simp only [Bool.not_true, Bool.not_false, Bool.true_eq_false, Bool.false_eq_true, reduceCtorEq] at hb; done) | exact Bool.noConfusion (hb.symm.trans (by assumption) : true = false) | exact Bool.noConfusion (hb.symm.trans (by assumption) : false = true) | (simp only [decide_eq_true_eq, decide_eq_false_iff_not, beq_iff_eq, beq_eq_false_iff_ne, bne_iff_ne, bne_eq_false_iff_eq, ne_eq, List.length_map, List.length_cons, List.length_nil, List.length_append, Bool.not_eq_true', Bool.not_eq_false'] at hb; exfalso; omega) | (exfalso; simp [ba_beq, IntKind.wrap, IntKind.bits, IntKind.signed] at hb; done)) | (show W _ _ _ _ _) | (show ∀ k, WL _ _ _ k _ _ _) | (show ∀ k, DL _ _ _ k _ _ _ _) | (show RoundEnd _ _ _ _ _) | refine fR ?_ | (show _ ∧ Go.Am.Fin _ _ _ _ _ _))
    | (show ∀ k, WL _ _ _ k _ _ _; first | refine fun k => lC (c0) (oW ?_ _) | refine fun k => lSA fits (oW ?_ _) | refine fun k => lL fits (oW ?_ _) | refine fun k => lQ fits (oW ?_ _) | refine fun k => lX fits (oW ?_ _) | refine fun k => lXa fits (oW ?_ _) | refine fun k => lXs fits (oW ?_ _) | refine fun k => lK fits (oW ?_ _) | refine fun k => lKa fits (oW ?_ _) | refine fun k => lLk fits (oW ?_ _) | refine fun k => lUp fits (oW ?_ _) | refine fun k => lDel fits (oW ?_ _) | refine fun k => lSt fits (oW ?_ _) | refine fun k => lLU fits (oW ?_ _) | refine fun k => lM fits (oW ?_ _) | refine fun k => lA fits (oW ?_ _) | refine fun k => lA0 fits (oW ?_ _) | refine fun k => lA1 fits (oW ?_ _) | refine fun k => lMk fits (oW ?_ _) | refine fun k => lW fits (oW ?_ _)))
    all_goals first | exact ⟨rfl, rfl⟩ | trace_state
  cases h1 : few e with
  | false =>
    rw [h1] at c1
    obtain ⟨k1, o1, n1, u1, l1⟩ := e
    obtain ⟨ds, ps, ms, ⟨dk, dd⟩⟩ := u
    obtain ⟨ds', ps', ms', ⟨dk', dd'⟩⟩ := v
    refine Spec.body (C := cx [] 81) fits (fn := Try.f4) Try.func4 rfl (by decide) (by decide) (gI ?_)
    repeat' (first
    | ((first | refine gC fits mixed ?_ | refine gC0 fits mixed ?_ | refine gO fits mixed ?_ | refine gR fits mixed ?_); (conv => whnf); first | (refine ⟨fun hb => ?_, fun hb => ?_⟩ <;> try first | (simp only [Bool.not_true, Bool.not_false, Bool.true_eq_false, Bool.false_eq_true, reduceCtorEq] at hb; done) | exact Bool.noConfusion (hb.symm.trans (by assumption) : true = false) | exact Bool.noConfusion (hb.symm.trans (by assumption) : false = true) | (simp only [decide_eq_true_eq, decide_eq_false_iff_not, beq_iff_eq, beq_eq_false_iff_ne, bne_iff_ne, bne_eq_false_iff_eq, ne_eq, List.length_map, List.length_cons, List.length_nil, List.length_append, Bool.not_eq_true', Bool.not_eq_false'] at hb; exfalso; omega) | (exfalso; simp [ba_beq, IntKind.wrap, IntKind.bits, IntKind.signed] at hb; done)) | (show W _ _ _ _ _) | (show ∀ k, WL _ _ _ k _ _ _) | (show ∀ k, DL _ _ _ k _ _ _ _) | (show RoundEnd _ _ _ _ _) | refine fR ?_ | (show _ ∧ Go.Am.Fin _ _ _ _ _ _))
    | (show ∀ k, WL _ _ _ k _ _ _; first | refine fun k => lC (c0) (oW ?_ _) | refine fun k => lC (c1) (oW ?_ _) | refine fun k => lSA fits (oW ?_ _) | refine fun k => lL fits (oW ?_ _) | refine fun k => lQ fits (oW ?_ _) | refine fun k => lX fits (oW ?_ _) | refine fun k => lXa fits (oW ?_ _) | refine fun k => lXs fits (oW ?_ _) | refine fun k => lK fits (oW ?_ _) | refine fun k => lKa fits (oW ?_ _) | refine fun k => lLk fits (oW ?_ _) | refine fun k => lUp fits (oW ?_ _) | refine fun k => lDel fits (oW ?_ _) | refine fun k => lSt fits (oW ?_ _) | refine fun k => lLU fits (oW ?_ _) | refine fun k => lM fits (oW ?_ _) | refine fun k => lA fits (oW ?_ _) | refine fun k => lA0 fits (oW ?_ _) | refine fun k => lA1 fits (oW ?_ _) | refine fun k => lMk fits (oW ?_ _) | refine fun k => lW fits (oW ?_ _)))
    all_goals first | exact ⟨rfl, rfl⟩ | trace_state
  | true =>
  rw [h1] at c1
  cases h2 : fewUnit u with
  | false =>
    rw [h2] at c2
    obtain ⟨k1, o1, n1, u1, l1⟩ := e
    obtain ⟨ds, ps, ms, ⟨dk, dd⟩⟩ := u
    obtain ⟨ds', ps', ms', ⟨dk', dd'⟩⟩ := v
    refine Spec.body (C := cx [] 81) fits (fn := Try.f4) Try.func4 rfl (by decide) (by decide) (gI ?_)
    repeat' (first
    | ((first | refine gC fits mixed ?_ | refine gC0 fits mixed ?_ | refine gO fits mixed ?_ | refine gR fits mixed ?_); (conv => whnf); first | (refine ⟨fun hb => ?_, fun hb => ?_⟩ <;> try first | (simp only [Bool.not_true, Bool.not_false, Bool.true_eq_false, Bool.false_eq_true, reduceCtorEq] at hb; done) | exact Bool.noConfusion (hb.symm.trans (by assumption) : true = false) | exact Bool.noConfusion (hb.symm.trans (by assumption) : false = true) | (simp only [decide_eq_true_eq, decide_eq_false_iff_not, beq_iff_eq, beq_eq_false_iff_ne, bne_iff_ne, bne_eq_false_iff_eq, ne_eq, List.length_map, List.length_cons, List.length_nil, List.length_append, Bool.not_eq_true', Bool.not_eq_false'] at hb; exfalso; omega) | (exfalso; simp [ba_beq, IntKind.wrap, IntKind.bits, IntKind.signed] at hb; done)) | (show W _ _ _ _ _) | (show ∀ k, WL _ _ _ k _ _ _) | (show ∀ k, DL _ _ _ k _ _ _ _) | (show RoundEnd _ _ _ _ _) | refine fR ?_ | (show _ ∧ Go.Am.Fin _ _ _ _ _ _))
    | (show ∀ k, WL _ _ _ k _ _ _; first | refine fun k => lC (c0) (oW ?_ _) | refine fun k => lC (c1) (oW ?_ _) | refine fun k => lC (c2) (oW ?_ _) | refine fun k => lSA fits (oW ?_ _) | refine fun k => lL fits (oW ?_ _) | refine fun k => lQ fits (oW ?_ _) | refine fun k => lX fits (oW ?_ _) | refine fun k => lXa fits (oW ?_ _) | refine fun k => lXs fits (oW ?_ _) | refine fun k => lK fits (oW ?_ _) | refine fun k => lKa fits (oW ?_ _) | refine fun k => lLk fits (oW ?_ _) | refine fun k => lUp fits (oW ?_ _) | refine fun k => lDel fits (oW ?_ _) | refine fun k => lSt fits (oW ?_ _) | refine fun k => lLU fits (oW ?_ _) | refine fun k => lM fits (oW ?_ _) | refine fun k => lA fits (oW ?_ _) | refine fun k => lA0 fits (oW ?_ _) | refine fun k => lA1 fits (oW ?_ _) | refine fun k => lMk fits (oW ?_ _) | refine fun k => lW fits (oW ?_ _)))
    all_goals first | exact ⟨rfl, rfl⟩ | trace_state
  | true =>
  rw [h2] at c2
  cases h3 : fewUnit v with
  | false =>
    rw [h3] at c3
    obtain ⟨k1, o1, n1, u1, l1⟩ := e
    obtain ⟨ds, ps, ms, ⟨dk, dd⟩⟩ := u
    obtain ⟨ds', ps', ms', ⟨dk', dd'⟩⟩ := v
    refine Spec.body (C := cx [] 81) fits (fn := Try.f4) Try.func4 rfl (by decide) (by decide) (gI ?_)
    repeat' (first
    | ((first | refine gC fits mixed ?_ | refine gC0 fits mixed ?_ | refine gO fits mixed ?_ | refine gR fits mixed ?_); (conv => whnf); first | (refine ⟨fun hb => ?_, fun hb => ?_⟩ <;> try first | (simp only [Bool.not_true, Bool.not_false, Bool.true_eq_false, Bool.false_eq_true, reduceCtorEq] at hb; done) | exact Bool.noConfusion (hb.symm.trans (by assumption) : true = false) | exact Bool.noConfusion (hb.symm.trans (by assumption) : false = true) | (simp only [decide_eq_true_eq, decide_eq_false_iff_not, beq_iff_eq, beq_eq_false_iff_ne, bne_iff_ne, bne_eq_false_iff_eq, ne_eq, List.length_map, List.length_cons, List.length_nil, List.length_append, Bool.not_eq_true', Bool.not_eq_false'] at hb; exfalso; omega) | (exfalso; simp [ba_beq, IntKind.wrap, IntKind.bits, IntKind.signed] at hb; done)) | (show W _ _ _ _ _) | (show ∀ k, WL _ _ _ k _ _ _) | (show ∀ k, DL _ _ _ k _ _ _ _) | (show RoundEnd _ _ _ _ _) | refine fR ?_ | (show _ ∧ Go.Am.Fin _ _ _ _ _ _))
    | (show ∀ k, WL _ _ _ k _ _ _; first | refine fun k => lC (c0) (oW ?_ _) | refine fun k => lC (c1) (oW ?_ _) | refine fun k => lC (c2) (oW ?_ _) | refine fun k => lC (c3) (oW ?_ _) | refine fun k => lSA fits (oW ?_ _) | refine fun k => lL fits (oW ?_ _) | refine fun k => lQ fits (oW ?_ _) | refine fun k => lX fits (oW ?_ _) | refine fun k => lXa fits (oW ?_ _) | refine fun k => lXs fits (oW ?_ _) | refine fun k => lK fits (oW ?_ _) | refine fun k => lKa fits (oW ?_ _) | refine fun k => lLk fits (oW ?_ _) | refine fun k => lUp fits (oW ?_ _) | refine fun k => lDel fits (oW ?_ _) | refine fun k => lSt fits (oW ?_ _) | refine fun k => lLU fits (oW ?_ _) | refine fun k => lM fits (oW ?_ _) | refine fun k => lA fits (oW ?_ _) | refine fun k => lA0 fits (oW ?_ _) | refine fun k => lA1 fits (oW ?_ _) | refine fun k => lMk fits (oW ?_ _) | refine fun k => lW fits (oW ?_ _)))
    all_goals first | exact ⟨rfl, rfl⟩ | trace_state
  | true =>
  rw [h3] at c3
  have ge := few_good h1
  obtain ⟨gu, ou⟩ := fewUnit_out h2
  have a1 := nameR s (by omega)
  have b1 := nameD s (by omega)
  have a2 := numberR (e.size + 1) e (Nat.lt_succ_self _) ge.1
  have b2 := numberD (e.size + 1) e (Nat.lt_succ_self _) ge.1
  have a3 := boolR (e.size + 1) e (Nat.lt_succ_self _) ge.1
  have b3 := boolD (e.size + 1) e (Nat.lt_succ_self _) ge.1
  have a4 := depthR (e.size + 1) e (Nat.lt_succ_self _) ge.2
  have b4 := depthD (e.size + 1) e (Nat.lt_succ_self _) ge.2
  have a5 := rightR u gu
  have b5 := rightD u gu
  have a6 := sameUnT u v ou
  have b6 := sameUnD u v ou
  have a7 := sameUnT u u ou
  rw [Un.eqb_refl] at a7
  generalize nameF s = z1 at a1 b1
  generalize numF (e.size + 1) e = z2 at a2 b2
  generalize boolF (e.size + 1) e = z3 at a3 b3
  generalize depthF e = z4 at a4 b4
  generalize rightF u = z5 at a5 b5
  generalize u.eqb v = z6 at a6 b6
  clear ge gu ou h1 h2 h3
  obtain ⟨k1, o1, n1, u1, l1⟩ := e
  obtain ⟨ds, ps, ms, ⟨dk, dd⟩⟩ := u
  obtain ⟨ds', ps', ms', ⟨dk', dd'⟩⟩ := v
  refine Spec.body (C := cx [] 81) fits (fn := Try.f4) Try.func4 rfl (by decide) (by decide) (gI ?_)
  repeat' (first
    | ((first | refine gC fits mixed ?_ | refine gC0 fits mixed ?_ | refine gO fits mixed ?_ | refine gR fits mixed ?_); (conv => whnf); first | (refine ⟨fun hb => ?_, fun hb => ?_⟩ <;> try first | (simp only [Bool.not_true, Bool.not_false, Bool.true_eq_false, Bool.false_eq_true, reduceCtorEq] at hb; done) | exact Bool.noConfusion (hb.symm.trans (by assumption) : true = false) | exact Bool.noConfusion (hb.symm.trans (by assumption) : false = true) | (simp only [decide_eq_true_eq, decide_eq_false_iff_not, beq_iff_eq, beq_eq_false_iff_ne, bne_iff_ne, bne_eq_false_iff_eq, ne_eq, List.length_map, List.length_cons, List.length_nil, List.length_append, Bool.not_eq_true', Bool.not_eq_false'] at hb; exfalso; omega) | (exfalso; simp [ba_beq, IntKind.wrap, IntKind.bits, IntKind.signed] at hb; done)) | (show W _ _ _ _ _) | (show ∀ k, WL _ _ _ k _ _ _) | (show ∀ k, DL _ _ _ k _ _ _ _) | (show RoundEnd _ _ _ _ _) | refine fR ?_ | (show _ ∧ Go.Am.Fin _ _ _ _ _ _))
    | (show ∀ k, WL _ _ _ k _ _ _; first | refine fun k => lC (c0) (oW ?_ _) | refine fun k => lC (c1) (oW ?_ _) | refine fun k => lC (c2) (oW ?_ _) | refine fun k => lC (c3) (oW ?_ _) | refine fun k => lC (a1) (oW ?_ _) | refine fun k => lC (b1) (oW ?_ _) | refine fun k => lC (a2) (oW ?_ _) | refine fun k => lC (b2) (oW ?_ _) | refine fun k => lC (a3) (oW ?_ _) | refine fun k => lC (b3) (oW ?_ _) | refine fun k => lC (a4) (oW ?_ _) | refine fun k => lC (b4) (oW ?_ _) | refine fun k => lC (a5) (oW ?_ _) | refine fun k => lC (b5) (oW ?_ _) | refine fun k => lC (a6) (oW ?_ _) | refine fun k => lC (b6) (oW ?_ _) | refine fun k => lC (a7) (oW ?_ _) | refine fun k => lSA fits (oW ?_ _) | refine fun k => lL fits (oW ?_ _) | refine fun k => lQ fits (oW ?_ _) | refine fun k => lX fits (oW ?_ _) | refine fun k => lXa fits (oW ?_ _) | refine fun k => lXs fits (oW ?_ _) | refine fun k => lK fits (oW ?_ _) | refine fun k => lKa fits (oW ?_ _) | refine fun k => lLk fits (oW ?_ _) | refine fun k => lUp fits (oW ?_ _) | refine fun k => lDel fits (oW ?_ _) | refine fun k => lSt fits (oW ?_ _) | refine fun k => lLU fits (oW ?_ _) | refine fun k => lM fits (oW ?_ _) | refine fun k => lA fits (oW ?_ _) | refine fun k => lA0 fits (oW ?_ _) | refine fun k => lA1 fits (oW ?_ _) | refine fun k => lMk fits (oW ?_ _) | refine fun k => lW fits (oW ?_ _))
    | (show ∀ k, DL _ _ _ k _ _ _ _; first | refine fun k => dC (c0) (oD ?_ _) | refine fun k => dC (c1) (oD ?_ _) | refine fun k => dC (c2) (oD ?_ _) | refine fun k => dC (c3) (oD ?_ _) | refine fun k => dC (a1) (oD ?_ _) | refine fun k => dC (b1) (oD ?_ _) | refine fun k => dC (a2) (oD ?_ _) | refine fun k => dC (b2) (oD ?_ _) | refine fun k => dC (a3) (oD ?_ _) | refine fun k => dC (b3) (oD ?_ _) | refine fun k => dC (a4) (oD ?_ _) | refine fun k => dC (b4) (oD ?_ _) | refine fun k => dC (a5) (oD ?_ _) | refine fun k => dC (b5) (oD ?_ _) | refine fun k => dC (a6) (oD ?_ _) | refine fun k => dC (b6) (oD ?_ _) | refine fun k => dC (a7) (oD ?_ _) | refine fun k => dSA fits (oD ?_ _) | refine fun k => dL fits (oD ?_ _) | refine fun k => dQ fits (oD ?_ _) | refine fun k => dX fits (oD ?_ _) | refine fun k => dXs fits (oD ?_ _) | refine fun k => dK fits (oD ?_ _) | refine fun k => dKa fits (oD ?_ _) | refine fun k => dLk fits (oD ?_ _) | refine fun k => dUp fits (oD ?_ _) | refine fun k => dA fits (oD ?_ _) | refine fun k => dA0 fits (oD ?_ _) | refine fun k => dSt fits (oD ?_ _) | refine fun k => dLU fits (oD ?_ _) | refine fun k => dM fits (oD ?_ _) | refine fun k => dN fits (oD ?_ _) | refine fun k => dW fits (oD ?_ _)))
  all_goals first | exact ⟨rfl, rfl⟩ | trace_state
end Go.Proofs.Ytngkoancdmimkaa
