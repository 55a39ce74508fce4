/- A part of a proof: functions of the program, walked over the abstract machine. -/
import Derived.Test.YtceccgnpkelpkaaSpan5
set_option linter.unusedVariables false
set_option linter.unusedSimpArgs false
namespace Go.Proofs.Ytceccgnpkelpkaa
open Go Go.Am Go.Proofs
attribute [local irreducible] W WL DL WO RoundEnd
set_option maxRecDepth 10000
set_option maxHeartbeats 4000000
def Span.has (n : Int) (x : Span) : Bool := decide (n ≥ x.lo) && decide (n ≤ x.hi)
theorem findClo (n : Int) (x : Span) : Am.Spec Try.prog 42 [.agg ((Span.row x).map .d), .one (.ptr 0 0)] [.var [.d (.sc (.int .u32 n))]] (fun v s => v = bool (x.has n) ∧ s = [.var [.d (.sc (.int .u32 n))]]) := by
  obtain ⟨x1, x2, xc, ⟨xk, xd⟩⟩ := x
  have hx : Span.has n ⟨x1, x2, xc, ⟨xk, xd⟩⟩ = (decide (n ≥ x1) && decide (n ≤ x2)) := rfl
  rw [hx]
  refine Spec.body (C := cx [] 14) fits (fn := Try.f42) Try.func42 rfl (by decide) (by decide) (gI ?_)
  repeat' (first | ((first | refine runC ?_ | refine runC0 ?_ | refine runO ?_ | refine runR ?_); (conv => whnf); first | (refine ⟨fun hb => ?_, fun hb => ?_⟩ <;> try exact noWay) | refine oA ?_ | refine oB ?_ | refine oC ?_ | refine oR ?_ | refine fR ?_ | refine fRk ?_ | refine oF ?_) | refine sSA ?_ | refine sL ?_ | refine sQ ?_ | refine sX ?_ | refine sXa ?_ | refine sXs ?_ | refine sK ?_ | refine sKa ?_ | refine sLk ?_ | refine sUp ?_ | refine sDel ?_ | refine sSt ?_ | refine sLU ?_ | refine sXw ?_ | refine sLe ?_ | refine sSe ?_ | refine sM ?_ | refine sA ?_ | refine sA0 ?_ | refine sA1 ?_ | refine sMk ?_ | refine sV ?_ | refine sW ?_ | fail)
  · exact ⟨by rw [show decide (n ≥ x1) = true by assumption, show decide (n ≤ x2) = true by assumption]; rfl, rfl⟩
  · exact ⟨by rw [show decide (n ≥ x1) = true by assumption, show decide (n ≤ x2) = false by assumption]; rfl, rfl⟩
  · exact ⟨by rw [show decide (n ≥ x1) = false by assumption]; rfl, rfl⟩
theorem ixSpan (n : Int) (l : List Span) (hl : l.length < 2 ^ 60) : Am.Spec Try.prog 41 [lst Span.row l, .one (.fn (.func 42) [] [.ptr 0 0])] [.var [.d (.sc (.int .u32 n))]] (fun v s => v = int .i64 (ixF (Span.has n) l 0) ∧ s = [.var [.d (.sc (.int .u32 n))]]) := by
  generalize hfb : ixF (Span.has n) l 0 = fb
  refine Spec.body (C := cx [] 19) fits (fn := Try.f41) Try.func41 rfl (by decide) (by decide) (gI ?_)
  repeat' (first | ((first | refine runC ?_ | refine runC0 ?_ | refine runO ?_ | refine runR ?_); (conv => whnf); first | (refine ⟨fun hb => ?_, fun hb => ?_⟩ <;> try exact noWay) | refine oA ?_ | refine oB ?_ | refine oC ?_ | refine oR ?_ | refine fR ?_ | refine fRk ?_ | refine oF ?_) | refine sSA ?_ | refine sL ?_ | refine sQ ?_ | refine sX ?_ | refine sXa ?_ | refine sXs ?_ | refine sK ?_ | refine sKa ?_ | refine sLk ?_ | refine sUp ?_ | refine sDel ?_ | refine sSt ?_ | refine sLU ?_ | refine sXw ?_ | refine sLe ?_ | refine sSe ?_ | refine sM ?_ | refine sA ?_ | refine sA0 ?_ | refine sA1 ?_ | refine sMk ?_ | refine sV ?_ | refine sW ?_ | fail)
  refine wLoop [0, 1, 7, 8] 1 (l.length + 1) ?_
  refine (fun key => key l [] _ rfl rfl hfb.symm :
    (∀ (rest done : List Span) (j : Int), l = done ++ rest → j = done.length → fb = ixF (Span.has n) rest j →
    WR2 _ _ _ _ _ (rest.length + 1) [(0, lst Span.row l), (1, .one (.fn (.func 42) [] [.ptr 0 0])), (7, int .i64 (l.map Span.row).length), (8, int .i64 j)] [.var [.d (.sc (.int .u32 n))]]) → _) ?_
  intro rest
  induction rest with
  | nil =>
    intro done j h1 hj hr
    have hlen : l.length = done.length := by rw [h1]; simp
    refine wR (gI ?_)
    repeat' (first | ((first | refine runC ?_ | refine runC0 ?_ | refine runO ?_ | refine runR ?_); (conv => whnf); first | (refine ⟨fun hb => ?_, fun hb => ?_⟩ <;> try exact noWay) | refine oA ?_ | refine oB ?_ | refine oC ?_ | refine oR ?_ | refine fR ?_ | refine fRk ?_ | refine oF ?_) | refine sSA ?_ | refine sL ?_ | refine sQ ?_ | refine sX ?_ | refine sXa ?_ | refine sXs ?_ | refine sK ?_ | refine sKa ?_ | refine sLk ?_ | refine sUp ?_ | refine sDel ?_ | refine sSt ?_ | refine sLU ?_ | refine sXw ?_ | refine sLe ?_ | refine sSe ?_ | refine sM ?_ | refine sA ?_ | refine sA0 ?_ | refine sA1 ?_ | refine sMk ?_ | refine sV ?_ | refine sW ?_ | fail)
    exact ⟨by rw [hr]; rfl, rfl⟩
  | cons x rest ih =>
    intro done j h1 hj hr
    have hlen : l.length = done.length + (rest.length + 1) := by rw [h1]; simp
    have hc := findClo n x
    rw [ixF] at hr
    obtain ⟨x1, x2, xc, ⟨xk, xd⟩⟩ := x
    cases hp : Span.has n ⟨x1, x2, xc, ⟨xk, xd⟩⟩ with
    | true =>
      rw [hp] at hc hr
      refine wR (gI ?_)
      repeat' (first | ((first | refine runC ?_ | refine runC0 ?_ | refine runO ?_ | refine runR ?_); (conv => whnf); first | (refine ⟨fun hb => ?_, fun hb => ?_⟩ <;> try exact noWay) | refine oA ?_ | refine oB ?_ | refine oC ?_ | refine oR ?_ | refine fR ?_ | refine fRk ?_ | refine oF ?_) | refine fun k => WL.crpU [0] [.var [.d (.sc (.int .u32 n))]] _ _ hc (oW ?_ _) | refine sSA ?_ | refine sL ?_ | refine sQ ?_ | refine sX ?_ | refine sXa ?_ | refine sXs ?_ | refine sK ?_ | refine sKa ?_ | refine sLk ?_ | refine sUp ?_ | refine sDel ?_ | refine sSt ?_ | refine sLU ?_ | refine sXw ?_ | refine sLe ?_ | refine sSe ?_ | refine sM ?_ | refine sA ?_ | refine sA0 ?_ | refine sA1 ?_ | refine sMk ?_ | refine sV ?_ | refine sW ?_ | fail)
      exact ⟨by rw [hr]; rfl, rfl⟩
    | false =>
      rw [hp] at hc hr
      refine wR (gI ?_)
      repeat' (first | ((first | refine runC ?_ | refine runC0 ?_ | refine runO ?_ | refine runR ?_); (conv => whnf); first | (refine ⟨fun hb => ?_, fun hb => ?_⟩ <;> try exact noWay) | refine oA ?_ | refine oB ?_ | refine oC ?_ | refine oR ?_ | refine fR ?_ | refine fRk ?_ | refine oF ?_) | refine fun k => WL.crpU [0] [.var [.d (.sc (.int .u32 n))]] _ _ hc (oW ?_ _) | refine sSA ?_ | refine sL ?_ | refine sQ ?_ | refine sX ?_ | refine sXa ?_ | refine sXs ?_ | refine sK ?_ | refine sKa ?_ | refine sLk ?_ | refine sUp ?_ | refine sDel ?_ | refine sSt ?_ | refine sLU ?_ | refine sXw ?_ | refine sLe ?_ | refine sSe ?_ | refine sM ?_ | refine sA ?_ | refine sA0 ?_ | refine sA1 ?_ | refine sMk ?_ | refine sV ?_ | refine sW ?_ | fail)
      refine rE (ih (done ++ [⟨x1, x2, xc, ⟨xk, xd⟩⟩]) _ (by rw [h1]; simp) ?_ ?_)
      · rw [wrap_ok (by omega) (by omega)]; simp [hj]
      · rw [hr, wrap_ok (by omega) (by omega)]; rfl
theorem findR (n : Int) (l : List Span) (hl : l.length < 2 ^ 60) : Comp Try.prog 17 [lst Span.row l, int .u32 n] (int .i64 (ixF (Span.has n) l 0)) := by
  have hc := ixSpan n l hl
  have h0 := ixF_lt (Span.has n) l 0 (by omega)
  generalize ixF (Span.has n) l 0 = i at *
  refine Spec.body (C := cx [] 12) fits (fn := Try.f17) Try.func17 rfl (by decide) (by decide) (gI ?_)
  repeat' (first | ((first | refine runC ?_ | refine runC0 ?_ | refine runO ?_ | refine runR ?_); (conv => whnf); first | (refine ⟨fun hb => ?_, fun hb => ?_⟩ <;> try exact noWay) | refine oA ?_ | refine oB ?_ | refine oC ?_ | refine oR ?_ | refine fR ?_ | refine fRk ?_ | refine oF ?_) | refine fun k => WL.crpU [0] [.var [.d (.sc (.int .u32 n))]] _ _ hc (oW ?_ _) | refine sSA ?_ | refine sL ?_ | refine sQ ?_ | refine sX ?_ | refine sXa ?_ | refine sXs ?_ | refine sK ?_ | refine sKa ?_ | refine sLk ?_ | refine sUp ?_ | refine sDel ?_ | refine sSt ?_ | refine sLU ?_ | refine sXw ?_ | refine sLe ?_ | refine sSe ?_ | refine sM ?_ | refine sA ?_ | refine sA0 ?_ | refine sA1 ?_ | refine sMk ?_ | refine sV ?_ | refine sW ?_ | fail)
  · have hb2 : i < 0 := by simpa using hb
    have : i = -1 := by omega
    subst this
    exact ⟨rfl, rfl⟩
  · exact ⟨rfl, rfl⟩
theorem findRefR (n : Int) (l : List Span) (hl : l.length < 2 ^ 60) : Comp Try.prog 18 [lst Span.row l, int .u32 n] (int .i64 (ixF (Span.has n) l 0)) := by
  generalize hfb : ixF (Span.has n) l 0 = fb
  refine Spec.body (C := cx [] 29) fits (fn := Try.f18) Try.func18 rfl (by decide) (by decide) (gI ?_)
  repeat' (first | ((first | refine runC ?_ | refine runC0 ?_ | refine runO ?_ | refine runR ?_); (conv => whnf); first | (refine ⟨fun hb => ?_, fun hb => ?_⟩ <;> try exact noWay) | refine oA ?_ | refine oB ?_ | refine oC ?_ | refine oR ?_ | refine fR ?_ | refine fRk ?_ | refine oF ?_) | refine sSA ?_ | refine sL ?_ | refine sQ ?_ | refine sX ?_ | refine sXa ?_ | refine sXs ?_ | refine sK ?_ | refine sKa ?_ | refine sLk ?_ | refine sUp ?_ | refine sDel ?_ | refine sSt ?_ | refine sLU ?_ | refine sXw ?_ | refine sLe ?_ | refine sSe ?_ | refine sM ?_ | refine sA ?_ | refine sA0 ?_ | refine sA1 ?_ | refine sMk ?_ | refine sV ?_ | refine sW ?_ | refine tSA ?_ | refine tL ?_ | refine tQ ?_ | refine tX ?_ | refine tXs ?_ | refine tK ?_ | refine tKa ?_ | refine tLk ?_ | refine tUp ?_ | refine tA ?_ | refine tA0 ?_ | refine tSt ?_ | refine tLU ?_ | refine tXw ?_ | refine tLe ?_ | refine tSe ?_ | refine tM ?_ | refine tN ?_ | refine tV ?_ | refine tW ?_ | fail)
  refine wLoop [0, 1, 5] 0 (l.length + 1) ?_
  refine (fun key => key l [] _ rfl rfl hfb.symm :
    (∀ (rest done : List Span) (j : Int), l = done ++ rest → j = done.length → fb = ixF (Span.has n) rest j →
    WR2 _ _ _ _ _ (rest.length + 1) [(0, lst Span.row l), (1, int .u32 n), (5, int .i64 j)] []) → _) ?_
  intro rest
  induction rest with
  | nil =>
    intro done j h1 hj hr
    have hlen : l.length = done.length := by rw [h1]; simp
    refine wR (gI ?_)
    repeat' (first | ((first | refine runC ?_ | refine runC0 ?_ | refine runO ?_ | refine runR ?_); (conv => whnf); first | (refine ⟨fun hb => ?_, fun hb => ?_⟩ <;> try exact noWay) | refine oA ?_ | refine oB ?_ | refine oC ?_ | refine oR ?_ | refine fR ?_ | refine fRk ?_ | refine oF ?_) | refine sSA ?_ | refine sL ?_ | refine sQ ?_ | refine sX ?_ | refine sXa ?_ | refine sXs ?_ | refine sK ?_ | refine sKa ?_ | refine sLk ?_ | refine sUp ?_ | refine sDel ?_ | refine sSt ?_ | refine sLU ?_ | refine sXw ?_ | refine sLe ?_ | refine sSe ?_ | refine sM ?_ | refine sA ?_ | refine sA0 ?_ | refine sA1 ?_ | refine sMk ?_ | refine sV ?_ | refine sW ?_ | refine tSA ?_ | refine tL ?_ | refine tQ ?_ | refine tX ?_ | refine tXs ?_ | refine tK ?_ | refine tKa ?_ | refine tLk ?_ | refine tUp ?_ | refine tA ?_ | refine tA0 ?_ | refine tSt ?_ | refine tLU ?_ | refine tXw ?_ | refine tLe ?_ | refine tSe ?_ | refine tM ?_ | refine tN ?_ | refine tV ?_ | refine tW ?_ | fail)
    exact ⟨by rw [hr]; rfl, rfl⟩
  | cons x rest ih =>
    intro done j h1 hj hr
    have hlen : l.length = done.length + (rest.length + 1) := by rw [h1]; simp
    rw [ixF] at hr
    obtain ⟨x1, x2, xc, ⟨xk, xd⟩⟩ := x
    have hx : Span.has n ⟨x1, x2, xc, ⟨xk, xd⟩⟩ = (decide (n ≥ x1) && decide (n ≤ x2)) := rfl
    rw [hx] at hr
    refine wR (gI ?_)
    repeat' (first | ((first | refine runC ?_ | refine runC0 ?_ | refine runO ?_ | refine runR ?_); (conv => whnf); first | (refine ⟨fun hb => ?_, fun hb => ?_⟩ <;> try exact noWay) | refine oA ?_ | refine oB ?_ | refine oC ?_ | refine oR ?_ | refine fR ?_ | refine fRk ?_ | refine oF ?_) | refine sSA ?_ | refine sL ?_ | refine sQ ?_ | refine sX ?_ | refine sXa ?_ | refine sXs ?_ | refine sK ?_ | refine sKa ?_ | refine sLk ?_ | refine sUp ?_ | refine sDel ?_ | refine sSt ?_ | refine sLU ?_ | refine sXw ?_ | refine sLe ?_ | refine sSe ?_ | refine sM ?_ | refine sA ?_ | refine sA0 ?_ | refine sA1 ?_ | refine sMk ?_ | refine sV ?_ | refine sW ?_ | refine tSA ?_ | refine tL ?_ | refine tQ ?_ | refine tX ?_ | refine tXs ?_ | refine tK ?_ | refine tKa ?_ | refine tLk ?_ | refine tUp ?_ | refine tA ?_ | refine tA0 ?_ | refine tSt ?_ | refine tLU ?_ | refine tXw ?_ | refine tLe ?_ | refine tSe ?_ | refine tM ?_ | refine tN ?_ | refine tV ?_ | refine tW ?_ | fail)
    · rw [show decide (n ≥ x1) = true by assumption, show decide (n ≤ x2) = true by assumption] at hr
      exact ⟨by rw [hr]; rfl, rfl⟩
    · rw [show decide (n ≥ x1) = true by assumption, show decide (n ≤ x2) = false by assumption] at hr
      refine rE (ih (done ++ [⟨x1, x2, xc, ⟨xk, xd⟩⟩]) _ (by rw [h1]; simp) ?_ ?_)
      · rw [wrap_ok (by omega) (by omega)]; simp [hj]
      · rw [hr, wrap_ok (by omega) (by omega)]; rfl
    · rw [show decide (n ≥ x1) = false by assumption] at hr
      refine rE (ih (done ++ [⟨x1, x2, xc, ⟨xk, xd⟩⟩]) _ (by rw [h1]; simp) ?_ ?_)
      · rw [wrap_ok (by omega) (by omega)]; simp [hj]
      · rw [hr, wrap_ok (by omega) (by omega)]; rfl
end Go.Proofs.Ytceccgnpkelpkaa
