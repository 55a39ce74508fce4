/- A part of a proof: functions of the program, walked over the abstract machine. -/
import Derived.Test.YtceccgnpkelpkaaSpan13
set_option linter.unusedVariables false
set_option linter.unusedSimpArgs false
namespace Go.Proofs.Ytceccgnpkelpkaa
open Go Go.Am Go.Proofs
attribute [local irreducible] W WL DL WO RoundEnd
set_option maxRecDepth 10000
set_option maxHeartbeats 4000000
def compF (op a b : Int) : Bool :=
  if op = 1 then a == b else if op = 2 then !(a == b) else if op = 3 then decide (a < b) else if op = 4 then decide (a ≤ b) else if op = 5 then decide (a > b) else if op = 6 then decide (a ≥ b) else false
theorem compR (op a b : Int) : Comp Try.prog 84 [int .i64 op, int .u64 a, int .u64 b] (bool (compF op a b)) := by
  generalize hfb : compF op a b = fb
  unfold compF at hfb
  refine Spec.body (C := cx [] 38) fits (fn := Try.f84) Try.func84 rfl (by decide) (by decide) (gI ?_)
  repeat' (first | ((first | refine runC ?_ | refine runC0 ?_ | refine runO ?_ | refine runR ?_); (conv => whnf); first | (refine ⟨fun hb => ?_, fun hb => ?_⟩ <;> try exact noWay) | refine oA ?_ | refine oB ?_ | refine oC ?_ | refine oR ?_ | refine fR ?_ | refine fRk ?_ | refine oF ?_) | refine sSA ?_ | refine sL ?_ | refine sQ ?_ | refine sX ?_ | refine sXa ?_ | refine sXs ?_ | refine sK ?_ | refine sKa ?_ | refine sLk ?_ | refine sUp ?_ | refine sDel ?_ | refine sSt ?_ | refine sLU ?_ | refine sXw ?_ | refine sLe ?_ | refine sSe ?_ | refine sM ?_ | refine sA ?_ | refine sA0 ?_ | refine sA1 ?_ | refine sMk ?_ | refine sV ?_ | refine sW ?_ | fail)
  all_goals
    refine ⟨?_, rfl⟩
    simp_all [Am.bool]
def Half.right (h : Half) : Bool := decide (h.arg ≥ 0) && (decide (h.arg ≤ 5) && (decide (h.op ≥ 1) && decide (h.op ≤ 6)))
theorem rightHalfR (h : Half) : Comp Try.prog 83 [.agg (h.row.map .d)] (bool h.right) := by
  generalize hfb : h.right = fb
  unfold Half.right at hfb
  obtain ⟨xa, xo, xh, xm, xv⟩ := h
  simp only at hfb
  refine Spec.body (C := cx [] 21) fits (fn := Try.f83) Try.func83 rfl (by decide) (by decide) (gI ?_)
  repeat' (first | ((first | refine runC ?_ | refine runC0 ?_ | refine runO ?_ | refine runR ?_); (conv => whnf); first | (refine ⟨fun hb => ?_, fun hb => ?_⟩ <;> try exact noWay) | refine oA ?_ | refine oB ?_ | refine oC ?_ | refine oR ?_ | refine fR ?_ | refine fRk ?_ | refine oF ?_) | refine sSA ?_ | refine sL ?_ | refine sQ ?_ | refine sX ?_ | refine sXa ?_ | refine sXs ?_ | refine sK ?_ | refine sKa ?_ | refine sLk ?_ | refine sUp ?_ | refine sDel ?_ | refine sSt ?_ | refine sLU ?_ | refine sXw ?_ | refine sLe ?_ | refine sSe ?_ | refine sM ?_ | refine sA ?_ | refine sA0 ?_ | refine sA1 ?_ | refine sMk ?_ | refine sV ?_ | refine sW ?_ | fail)
  all_goals
    refine ⟨?_, rfl⟩
    simp_all [Am.bool]
end Go.Proofs.Ytceccgnpkelpkaa
