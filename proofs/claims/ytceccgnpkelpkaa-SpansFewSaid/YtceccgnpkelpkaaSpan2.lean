/- A part of a proof: functions of the program, walked over the abstract machine. -/
import Derived.Test.YtceccgnpkelpkaaSpan1
set_option linter.unusedVariables false
set_option linter.unusedSimpArgs false
namespace Go.Proofs.Ytceccgnpkelpkaa
open Go Go.Am Go.Proofs
attribute [local irreducible] W WL DL WO RoundEnd
set_option maxRecDepth 10000
set_option maxHeartbeats 4000000
def addF : List Span → Span → List Span
  | [], x => [x]
  | [y], x => if y.like x then [⟨y.lo, x.hi, y.steps, y.act⟩] else [y, x]
  | y :: z :: r, x => y :: addF (z :: r) x
theorem addF_last (y x : Span) : ∀ (l : List Span), addF (l ++ [y]) x = if y.like x then l ++ [⟨y.lo, x.hi, y.steps, y.act⟩] else l ++ [y] ++ [x]
  | [] => by simp only [List.nil_append, addF]; split <;> rfl
  | [z] => by
    show z :: addF ([] ++ [y]) x = _
    rw [addF_last y x []]; split <;> rfl
  | z :: w :: r => by
    show z :: addF ((w :: r) ++ [y]) x = _
    rw [addF_last y x (w :: r)]; split <;> rfl
theorem addR (ep : Nat) (l : List Span) (x : Span) (hl : l.length ≤ 1000) (hs : ∀ y ∈ l, y.steps.length < 2 ^ 60 ∧ ∀ s ∈ y.steps, s.ok) : Am.Spec Try.prog 37 [.one (.arr 0 ep (l.map Span.row).length), .agg (x.row.map .d)] [.arr ep true 5 (l.map Span.row)]
    (fun v s => v = .one (.arr 0 ep ((addF l x).map Span.row).length) ∧ s = [.arr ep true 5 ((addF l x).map Span.row)]) := by
  rcases List.eq_nil_or_concat l with rfl | ⟨ls, y, rfl⟩
  · obtain ⟨x1, x2, xc, ⟨xk, xd⟩⟩ := x
    refine Spec.body (C := cx [] 30) fits (fn := Try.f37) Try.func37 rfl (by decide) (by decide) (gI ?_)
    repeat' (first | refine fRk ?_ | ((first | refine runC ?_ | refine runC0 ?_ | refine runO ?_ | refine runR ?_); (conv => whnf); first | (refine ⟨fun hb => ?_, fun hb => ?_⟩ <;> try exact noWay) | refine oA ?_ | refine oB ?_ | refine oC ?_ | refine oR ?_ | refine fR ?_ | refine fRk ?_ | refine oF ?_) | refine sSA ?_ | refine sL ?_ | refine sQ ?_ | refine sX ?_ | refine sXa ?_ | refine sXs ?_ | refine sK ?_ | refine sKa ?_ | refine sLk ?_ | refine sUp ?_ | refine sDel ?_ | refine sSt ?_ | refine sLU ?_ | refine sXw ?_ | refine sLe ?_ | refine sSe ?_ | refine sM ?_ | refine sA ?_ | refine sA0 ?_ | refine sA1 ?_ | refine sMk ?_ | refine sV ?_ | refine sW ?_ | refine tSA ?_ | refine tL ?_ | refine tQ ?_ | refine tX ?_ | refine tXs ?_ | refine tK ?_ | refine tKa ?_ | refine tLk ?_ | refine tUp ?_ | refine tA ?_ | refine tA0 ?_ | refine tSt ?_ | refine tLU ?_ | refine tXw ?_ | refine tLe ?_ | refine tSe ?_ | refine tM ?_ | refine tN ?_ | refine tV ?_ | refine tW ?_ | fail)
    all_goals exact ⟨rfl, rfl⟩
  · rw [List.concat_eq_append] at *
    have hy := hs y (by simp)
    have hc := alikeR y x hy.1 hy.2
    have hlen : ((ls ++ [y]).map Span.row).length = ls.length + 1 := by simp
    have hl2 : ls.length + 1 ≤ 1000 := by simpa using hl
    have hj : IntKind.wrap .i64 ((((ls ++ [y]).map Span.row).length : Int) - 1) = ls.length := by
      rw [wrap_ok (by omega) (by omega)]; omega
    have hj0 : 0 ≤ IntKind.wrap .i64 ((((ls ++ [y]).map Span.row).length : Int) - 1) := by omega
    have hrow : ((ls ++ [y]).map Span.row)[(IntKind.wrap .i64 ((((ls ++ [y]).map Span.row).length : Int) - 1)).toNat]? = some y.row := by rw [hj]; simp
    rw [addF_last]
    obtain ⟨x1, x2, xc, ⟨xk, xd⟩⟩ := x
    obtain ⟨y1, y2, yc, ⟨yk, yd⟩⟩ := y
    refine Spec.body (C := cx [] 30) fits (fn := Try.f37) Try.func37 rfl (by decide) (by decide) (gI ?_)
    repeat' (first | refine fRk ?_ | ((first | refine runC ?_ | refine runC0 ?_ | refine runO ?_ | refine runR ?_); (conv => whnf); first | (refine ⟨fun hb => ?_, fun hb => ?_⟩ <;> try exact noWay) | refine oA ?_ | refine oB ?_ | refine oC ?_ | refine oR ?_ | refine fR ?_ | refine fRk ?_ | refine oF ?_) | refine sB (hc) (fun h1 => ?_) fun h1 => ?_ | refine sSA ?_ | refine sL ?_ | refine sQ ?_ | refine sX ?_ | refine sXa ?_ | refine sXs ?_ | refine sK ?_ | refine sKa ?_ | refine sLk ?_ | refine sUp ?_ | refine sDel ?_ | refine sSt ?_ | refine sLU ?_ | refine sXw ?_ | refine sLe ?_ | refine sSe ?_ | refine sM ?_ | refine sA ?_ | refine sA0 ?_ | refine sA1 ?_ | refine sMk ?_ | refine sV ?_ | refine sW ?_ | refine tB (hc) (fun h1 => ?_) fun h1 => ?_ | refine tSA ?_ | refine tL ?_ | refine tQ ?_ | refine tX ?_ | refine tXs ?_ | refine tK ?_ | refine tKa ?_ | refine tLk ?_ | refine tUp ?_ | refine tA ?_ | refine tA0 ?_ | refine tSt ?_ | refine tLU ?_ | refine tXw ?_ | refine tLe ?_ | refine tSe ?_ | refine tM ?_ | refine tN ?_ | refine tV ?_ | refine tW ?_ | fail)
    · rw [if_pos h1]
      have hset : ∀ r, List.set ((ls ++ [(⟨y1, y2, yc, ⟨yk, yd⟩⟩ : Span)]).map Span.row) (IntKind.wrap .i64 ((((ls ++ [(⟨y1, y2, yc, ⟨yk, yd⟩⟩ : Span)]).map Span.row).length : Int) - 1)).toNat r = ls.map Span.row ++ [r] := by
        intro r; rw [hj]; simp [List.set_append]
      exact ⟨by simp, congrArg (fun z => [Ob.arr ep true 5 z]) ((hset _).trans (by rw [List.map_append]; rfl))⟩
    · rw [if_neg (by rw [h1]; simp)]
      have e : ∀ z : Span, ((ls ++ [(⟨y1, y2, yc, ⟨yk, yd⟩⟩ : Span)]) ++ [z]).map Span.row = (ls ++ [(⟨y1, y2, yc, ⟨yk, yd⟩⟩ : Span)]).map Span.row ++ [Span.row z] := fun z => List.map_append
      rw [e]
      exact ⟨rfl, rfl⟩
    · exact Bool.noConfusion ((decide_eq_true hj0).symm.trans hb)
end Go.Proofs.Ytceccgnpkelpkaa
