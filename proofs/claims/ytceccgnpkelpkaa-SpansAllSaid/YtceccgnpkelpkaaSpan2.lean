/- A part of a proof: functions of the program, walked over the abstract machine. -/
import Derived.Test.YtceccgnpkelpkaaSpan1
set_option linter.unusedVariables false
set_option linter.unusedSimpArgs false
namespace Go.Proofs.Ytceccgnpkelpkaa
open Go Go.Am Go.Proofs
attribute [local irreducible] W WL DL WO RoundEnd
set_option maxRecDepth 10000
set_option maxHeartbeats 4000000
def addF : List Span → Span → List Span
  | [], x => [x]
  | [y], x => if y.like x then [⟨y.lo, x.hi, y.steps, y.act⟩] else [y, x]
  | y :: z :: r, x => y :: addF (z :: r) x
theorem addF_last (y x : Span) : ∀ (l : List Span), addF (l ++ [y]) x = if y.like x then l ++ [⟨y.lo, x.hi, y.steps, y.act⟩] else l ++ [y] ++ [x]
  | [] => by simp only [List.nil_append, addF]; split <;> rfl
  | [z] => by
    show z :: addF ([] ++ [y]) x = _
    rw [addF_last y x []]; split <;> rfl
  | z :: w :: r => by
    show z :: addF ((w :: r) ++ [y]) x = _
    rw [addF_last y x (w :: r)]; split <;> rfl
theorem addR (ep : Nat) (l : List Span) (x : Span) (hl : l.length ≤ 1000) (hs : ∀ y ∈ l, y.steps.length < 2 ^ 60 ∧ ∀ s ∈ y.steps, s.ok) : Am.Spec Try.prog 37 [.one (.arr 0 ep (l.map Span.row).length), .agg (x.row.map .d)] [.arr ep true 5 (l.map Span.row)]
    (fun v s => v = .one (.arr 0 ep ((addF l x).map Span.row).length) ∧ s = [.arr ep true 5 ((addF l x).map Span.row)]) := by
  rcases List.eq_nil_or_concat l with rfl | ⟨ls, y, rfl⟩
  · obtain ⟨x1, x2, xc, ⟨xk, xd⟩⟩ := x
    refine Spec.body (C := cx [] 30) fits (fn := Try.f37) Try.func37 rfl (by decide) (by decide) (gI ?_)
    repeat' (first
    | refine fRk ?_
    | ((first | refine gC fits mixed ?_ | refine gC0 fits mixed ?_ | refine gO fits mixed ?_ | refine gR fits mixed ?_); (conv => whnf); first | (refine ⟨fun hb => ?_, fun hb => ?_⟩ <;> try first | (simp only [Bool.not_true, Bool.not_false, Bool.true_eq_false, Bool.false_eq_true, reduceCtorEq] at hb; done) | exact Bool.noConfusion (hb.symm.trans (by assumption) : true = false) | exact Bool.noConfusion (hb.symm.trans (by assumption) : false = true) | (simp only [decide_eq_true_eq, decide_eq_false_iff_not, beq_iff_eq, beq_eq_false_iff_ne, bne_iff_ne, bne_eq_false_iff_eq, ne_eq, List.length_map, List.length_cons, List.length_nil, List.length_append, Bool.not_eq_true', Bool.not_eq_false'] at hb; exfalso; omega) | (exfalso; simp [ba_beq, IntKind.wrap, IntKind.bits, IntKind.signed] at hb; done)) | (show W _ _ _ _ _) | (show ∀ k, WL _ _ _ k _ _ _) | (show ∀ k, DL _ _ _ k _ _ _ _) | (show RoundEnd _ _ _ _ _) | refine fR ?_ | refine fRk ?_ | (show _ ∧ Go.Am.Fin _ _ _ _ _ _))
    | (show ∀ k, WL _ _ _ k _ _ _; first | refine fun k => lSA fits (oW ?_ _) | refine fun k => lL fits (oW ?_ _) | refine fun k => lQ fits (oW ?_ _) | refine fun k => lX fits (oW ?_ _) | refine fun k => lXa fits (oW ?_ _) | refine fun k => lXs fits (oW ?_ _) | refine fun k => lK fits (oW ?_ _) | refine fun k => lKa fits (oW ?_ _) | refine fun k => lLk fits (oW ?_ _) | refine fun k => lUp fits (oW ?_ _) | refine fun k => lDel fits (oW ?_ _) | refine fun k => lSt fits (oW ?_ _) | refine fun k => lLU fits (oW ?_ _) | refine fun k => lXw fits (oW ?_ _) | refine fun k => lLe fits (oW ?_ _) | refine fun k => lSe fits (oW ?_ _) | refine fun k => lM fits (oW ?_ _) | refine fun k => lA fits (oW ?_ _) | refine fun k => lA0 fits (oW ?_ _) | refine fun k => lA1 fits (oW ?_ _) | refine fun k => lMk fits (oW ?_ _) | refine fun k => lW fits (oW ?_ _))
    | (show ∀ k, DL _ _ _ k _ _ _ _; first | refine fun k => dSA fits (oD ?_ _) | refine fun k => dL fits (oD ?_ _) | refine fun k => dQ fits (oD ?_ _) | refine fun k => dX fits (oD ?_ _) | refine fun k => dXs fits (oD ?_ _) | refine fun k => dK fits (oD ?_ _) | refine fun k => dKa fits (oD ?_ _) | refine fun k => dLk fits (oD ?_ _) | refine fun k => dUp fits (oD ?_ _) | refine fun k => dA fits (oD ?_ _) | refine fun k => dA0 fits (oD ?_ _) | refine fun k => dSt fits (oD ?_ _) | refine fun k => dLU fits (oD ?_ _) | refine fun k => dXw fits (oD ?_ _) | refine fun k => dLe fits (oD ?_ _) | refine fun k => dSe fits (oD ?_ _) | refine fun k => dM fits (oD ?_ _) | refine fun k => dN fits (oD ?_ _) | refine fun k => dW fits (oD ?_ _)))
    all_goals exact ⟨rfl, rfl⟩
  · rw [List.concat_eq_append] at *
    have hy := hs y (by simp)
    have hc := alikeR y x hy.1 hy.2
    have hlen : ((ls ++ [y]).map Span.row).length = ls.length + 1 := by simp
    have hl2 : ls.length + 1 ≤ 1000 := by simpa using hl
    have hj : IntKind.wrap .i64 ((((ls ++ [y]).map Span.row).length : Int) - 1) = ls.length := by
      rw [wrap_ok (by omega) (by omega)]; omega
    have hj0 : 0 ≤ IntKind.wrap .i64 ((((ls ++ [y]).map Span.row).length : Int) - 1) := by omega
    have hrow : ((ls ++ [y]).map Span.row)[(IntKind.wrap .i64 ((((ls ++ [y]).map Span.row).length : Int) - 1)).toNat]? = some y.row := by rw [hj]; simp
    rw [addF_last]
    obtain ⟨x1, x2, xc, ⟨xk, xd⟩⟩ := x
    obtain ⟨y1, y2, yc, ⟨yk, yd⟩⟩ := y
    refine Spec.body (C := cx [] 30) fits (fn := Try.f37) Try.func37 rfl (by decide) (by decide) (gI ?_)
    repeat' (first
    | refine fRk ?_
    | ((first | refine gC fits mixed ?_ | refine gC0 fits mixed ?_ | refine gO fits mixed ?_ | refine gR fits mixed ?_); (conv => whnf); first | (refine ⟨fun hb => ?_, fun hb => ?_⟩ <;> try first | (simp only [Bool.not_true, Bool.not_false, Bool.true_eq_false, Bool.false_eq_true, reduceCtorEq] at hb; done) | exact Bool.noConfusion (hb.symm.trans (by assumption) : true = false) | exact Bool.noConfusion (hb.symm.trans (by assumption) : false = true) | (simp only [decide_eq_true_eq, decide_eq_false_iff_not, beq_iff_eq, beq_eq_false_iff_ne, bne_iff_ne, bne_eq_false_iff_eq, ne_eq, List.length_map, List.length_cons, List.length_nil, List.length_append, Bool.not_eq_true', Bool.not_eq_false'] at hb; exfalso; omega) | (exfalso; simp [ba_beq, IntKind.wrap, IntKind.bits, IntKind.signed] at hb; done)) | (show W _ _ _ _ _) | (show ∀ k, WL _ _ _ k _ _ _) | (show ∀ k, DL _ _ _ k _ _ _ _) | (show RoundEnd _ _ _ _ _) | refine fR ?_ | refine fRk ?_ | (show _ ∧ Go.Am.Fin _ _ _ _ _ _))
    | (show ∀ k, WL _ _ _ k _ _ _; first | (refine fun k => lCB (hc) (fun h1 => oW ?_ _) (fun h1 => oW ?_ _)) | refine fun k => lSA fits (oW ?_ _) | refine fun k => lL fits (oW ?_ _) | refine fun k => lQ fits (oW ?_ _) | refine fun k => lX fits (oW ?_ _) | refine fun k => lXa fits (oW ?_ _) | refine fun k => lXs fits (oW ?_ _) | refine fun k => lK fits (oW ?_ _) | refine fun k => lKa fits (oW ?_ _) | refine fun k => lLk fits (oW ?_ _) | refine fun k => lUp fits (oW ?_ _) | refine fun k => lDel fits (oW ?_ _) | refine fun k => lSt fits (oW ?_ _) | refine fun k => lLU fits (oW ?_ _) | refine fun k => lXw fits (oW ?_ _) | refine fun k => lLe fits (oW ?_ _) | refine fun k => lSe fits (oW ?_ _) | refine fun k => lM fits (oW ?_ _) | refine fun k => lA fits (oW ?_ _) | refine fun k => lA0 fits (oW ?_ _) | refine fun k => lA1 fits (oW ?_ _) | refine fun k => lMk fits (oW ?_ _) | refine fun k => lW fits (oW ?_ _))
    | (show ∀ k, DL _ _ _ k _ _ _ _; first | (refine fun k => dCB (hc) (fun h1 => oD ?_ _) (fun h1 => oD ?_ _)) | refine fun k => dSA fits (oD ?_ _) | refine fun k => dL fits (oD ?_ _) | refine fun k => dQ fits (oD ?_ _) | refine fun k => dX fits (oD ?_ _) | refine fun k => dXs fits (oD ?_ _) | refine fun k => dK fits (oD ?_ _) | refine fun k => dKa fits (oD ?_ _) | refine fun k => dLk fits (oD ?_ _) | refine fun k => dUp fits (oD ?_ _) | refine fun k => dA fits (oD ?_ _) | refine fun k => dA0 fits (oD ?_ _) | refine fun k => dSt fits (oD ?_ _) | refine fun k => dLU fits (oD ?_ _) | refine fun k => dXw fits (oD ?_ _) | refine fun k => dLe fits (oD ?_ _) | refine fun k => dSe fits (oD ?_ _) | refine fun k => dM fits (oD ?_ _) | refine fun k => dN fits (oD ?_ _) | refine fun k => dW fits (oD ?_ _)))
    · rw [if_pos h1]
      have hset : ∀ r, List.set ((ls ++ [(⟨y1, y2, yc, ⟨yk, yd⟩⟩ : Span)]).map Span.row) (IntKind.wrap .i64 ((((ls ++ [(⟨y1, y2, yc, ⟨yk, yd⟩⟩ : Span)]).map Span.row).length : Int) - 1)).toNat r = ls.map Span.row ++ [r] := by
        intro r; rw [hj]; simp [List.set_append]
      exact ⟨by simp, congrArg (fun z => [Ob.arr ep true 5 z]) ((hset _).trans (by rw [List.map_append]; rfl))⟩
    · rw [if_neg (by rw [h1]; simp)]
      have e : ∀ z : Span, ((ls ++ [(⟨y1, y2, yc, ⟨yk, yd⟩⟩ : Span)]) ++ [z]).map Span.row = (ls ++ [(⟨y1, y2, yc, ⟨yk, yd⟩⟩ : Span)]).map Span.row ++ [Span.row z] := fun z => List.map_append
      rw [e]
      exact ⟨rfl, rfl⟩
    · exact Bool.noConfusion ((decide_eq_true hj0).symm.trans hb)
end Go.Proofs.Ytceccgnpkelpkaa
