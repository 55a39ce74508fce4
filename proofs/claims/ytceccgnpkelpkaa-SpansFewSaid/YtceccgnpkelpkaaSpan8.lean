/- A part of a proof: functions of the program, walked over the abstract machine. -/
import Derived.Test.YtceccgnpkelpkaaSpan7
set_option linter.unusedVariables false
set_option linter.unusedSimpArgs false
namespace Go.Proofs.Ytceccgnpkelpkaa
open Go Go.Am Go.Proofs
attribute [local irreducible] W WL DL WO RoundEnd
set_option maxRecDepth 10000
set_option maxHeartbeats 4000000
theorem sameStepsR (a b : List Stp) (hla : a.length < 2 ^ 60) (hok : ∀ c ∈ a, c.ok) : Comp Try.prog 20 [lst Stp.row a, lst Stp.row b] (bool (pw Stp.eqb a b)) := by
  refine Spec.body (C := cx [] 42) fits (fn := Try.f20) Try.func20 rfl (by decide) (by decide) (gI ?_)
  repeat' (first | ((first | refine runC ?_ | refine runC0 ?_ | refine runO ?_ | refine runR ?_); (conv => whnf); first | (refine ⟨fun hb => ?_, fun hb => ?_⟩ <;> try exact noWay) | refine oA ?_ | refine oB ?_ | refine oC ?_ | refine oR ?_ | refine fR ?_ | refine fRk ?_ | refine oF ?_) | refine sSA ?_ | refine sL ?_ | refine sQ ?_ | refine sX ?_ | refine sXa ?_ | refine sXs ?_ | refine sK ?_ | refine sKa ?_ | refine sLk ?_ | refine sUp ?_ | refine sDel ?_ | refine sSt ?_ | refine sLU ?_ | refine sXw ?_ | refine sLe ?_ | refine sSe ?_ | refine sM ?_ | refine sA ?_ | refine sA0 ?_ | refine sA1 ?_ | refine sMk ?_ | refine sV ?_ | refine sW ?_ | refine tSA ?_ | refine tL ?_ | refine tQ ?_ | refine tX ?_ | refine tXs ?_ | refine tK ?_ | refine tKa ?_ | refine tLk ?_ | refine tUp ?_ | refine tA ?_ | refine tA0 ?_ | refine tSt ?_ | refine tLU ?_ | refine tXw ?_ | refine tLe ?_ | refine tSe ?_ | refine tM ?_ | refine tN ?_ | refine tV ?_ | refine tW ?_ | fail)
  · refine ⟨?_, rfl⟩
    have hne : a.length ≠ b.length := by simp at hb; omega
    rw [pw_len hne]; rfl
  have hab : a.length = b.length := by simp at hb; omega
  refine wLoop [0, 1, 5] 0 (a.length + 1) ?_
  refine (fun key => key a b [] [] _ rfl rfl rfl rfl hab rfl : (∀ (r1 r2 d1 d2 : List Stp) (j : Int), a = d1 ++ r1 → b = d2 ++ r2 → j = d1.length → j = d2.length → r1.length = r2.length → pw Stp.eqb a b = pw Stp.eqb r1 r2 →
    WR2 _ _ _ _ _ (r1.length + 1) [(0, lst Stp.row a), (1, lst Stp.row b), (5, int .i64 j)] []) → _) ?_
  intro r1
  induction r1 with
  | nil =>
    intro r2 d1 d2 j g1 g2 hj hj2 hr hs
    have hlen : a.length = d1.length := by rw [g1]; simp
    have : r2 = [] := List.length_eq_zero_iff.1 (by simpa using hr.symm)
    subst this
    refine wR (gI ?_)
    repeat' (first | ((first | refine runC ?_ | refine runC0 ?_ | refine runO ?_ | refine runR ?_); (conv => whnf); first | (refine ⟨fun hb => ?_, fun hb => ?_⟩ <;> try exact noWay) | refine oA ?_ | refine oB ?_ | refine oC ?_ | refine oR ?_ | refine fR ?_ | refine fRk ?_ | refine oF ?_) | refine sSA ?_ | refine sL ?_ | refine sQ ?_ | refine sX ?_ | refine sXa ?_ | refine sXs ?_ | refine sK ?_ | refine sKa ?_ | refine sLk ?_ | refine sUp ?_ | refine sDel ?_ | refine sSt ?_ | refine sLU ?_ | refine sXw ?_ | refine sLe ?_ | refine sSe ?_ | refine sM ?_ | refine sA ?_ | refine sA0 ?_ | refine sA1 ?_ | refine sMk ?_ | refine sV ?_ | refine sW ?_ | refine tSA ?_ | refine tL ?_ | refine tQ ?_ | refine tX ?_ | refine tXs ?_ | refine tK ?_ | refine tKa ?_ | refine tLk ?_ | refine tUp ?_ | refine tA ?_ | refine tA0 ?_ | refine tSt ?_ | refine tLU ?_ | refine tXw ?_ | refine tLe ?_ | refine tSe ?_ | refine tM ?_ | refine tN ?_ | refine tV ?_ | refine tW ?_ | fail)
    exact ⟨by rw [hs]; rfl, rfl⟩
  | cons x r1 ih =>
    intro r2 d1 d2 j g1 g2 hj hj2 hr hs
    rcases r2 with _ | ⟨y, r2⟩
    · simp at hr
    have hlen : a.length = d1.length + (r1.length + 1) := by rw [g1]; simp
    have hx := hok x (by rw [g1]; simp)
    have hc := sameClausesR x.clauses y.clauses (by have := hx.1; omega) (fun c hc => by have := hx.2 c hc; omega)
    have hxy : Stp.eqb x y = ((x.act.kind == y.act.kind && (x.act.data == y.act.data && true)) && pw (pw Half.eqb) x.clauses y.clauses) := rfl
    obtain ⟨xc, ⟨xk, xd⟩⟩ := x
    obtain ⟨yc, ⟨yk, yd⟩⟩ := y
    simp only at hxy
    refine wR (gI ?_)
    repeat' (first | ((first | refine runC ?_ | refine runC0 ?_ | refine runO ?_ | refine runR ?_); (conv => whnf); first | (refine ⟨fun hb => ?_, fun hb => ?_⟩ <;> try exact noWay) | refine oA ?_ | refine oB ?_ | refine oC ?_ | refine oR ?_ | refine fR ?_ | refine fRk ?_ | refine oF ?_) | refine sB (hc) (fun h1 => ?_) fun h1 => ?_ | refine sSA ?_ | refine sL ?_ | refine sQ ?_ | refine sX ?_ | refine sXa ?_ | refine sXs ?_ | refine sK ?_ | refine sKa ?_ | refine sLk ?_ | refine sUp ?_ | refine sDel ?_ | refine sSt ?_ | refine sLU ?_ | refine sXw ?_ | refine sLe ?_ | refine sSe ?_ | refine sM ?_ | refine sA ?_ | refine sA0 ?_ | refine sA1 ?_ | refine sMk ?_ | refine sV ?_ | refine sW ?_ | refine tB (hc) (fun h1 => ?_) fun h1 => ?_ | refine tSA ?_ | refine tL ?_ | refine tQ ?_ | refine tX ?_ | refine tXs ?_ | refine tK ?_ | refine tKa ?_ | refine tLk ?_ | refine tUp ?_ | refine tA ?_ | refine tA0 ?_ | refine tSt ?_ | refine tLU ?_ | refine tXw ?_ | refine tLe ?_ | refine tSe ?_ | refine tM ?_ | refine tN ?_ | refine tV ?_ | refine tW ?_ | fail)
    · have h : (!(xk == yk && (xd == yd && true))) = true := by assumption
      rw [Bool.not_eq_true'] at h
      exact ⟨by rw [hs, pw, hxy, h]; rfl, rfl⟩
    · have h : (!(xk == yk && (xd == yd && true))) = false := by assumption
      rw [Bool.not_eq_false'] at h
      refine rE (ih r2 (d1 ++ [⟨xc, ⟨xk, xd⟩⟩]) (d2 ++ [⟨yc, ⟨yk, yd⟩⟩]) _ ?_ ?_ ?_ ?_ ?_ ?_)
      · simp [g1]
      · simp [g2]
      · rw [wrap_ok (by omega) (by omega)]; simp [hj]
      · rw [wrap_ok (by omega) (by omega)]; simp [hj2]
      · simpa using hr
      · rw [hs, pw, hxy, h, h1]; rfl
    · exact ⟨by rw [hs, pw, hxy, h1, Bool.and_false]; rfl, rfl⟩
theorem pw_refl {α : Type} {f : α → α → Bool} (h : ∀ x, f x x = true) : ∀ l : List α, pw f l l = true
  | [] => rfl
  | x :: l => by rw [pw, h, pw_refl h l]; rfl
theorem Half.eqb_refl (x : Half) : Half.eqb x x = true := by simp [Half.eqb]
theorem Stp.eqb_refl (x : Stp) : Stp.eqb x x = true := by
  rw [Stp.eqb, pw_refl (pw_refl Half.eqb_refl)]; simp [Act.eq2]
theorem sameSpansR (a : List Span) (hla : a.length < 2 ^ 60) (hok : ∀ c ∈ a, good c.steps) : Comp Try.prog 16 [lst Span.row a, lst Span.row a] (bool true) := by
  refine Spec.body (C := cx [] 68) fits (fn := Try.f16) Try.func16 rfl (by decide) (by decide) (gI ?_)
  repeat' (first | ((first | refine runC ?_ | refine runC0 ?_ | refine runO ?_ | refine runR ?_); (conv => whnf); first | (refine ⟨fun hb => ?_, fun hb => ?_⟩ <;> try exact noWay) | refine oA ?_ | refine oB ?_ | refine oC ?_ | refine oR ?_ | refine fR ?_ | refine fRk ?_ | refine oF ?_) | refine sSA ?_ | refine sL ?_ | refine sQ ?_ | refine sX ?_ | refine sXa ?_ | refine sXs ?_ | refine sK ?_ | refine sKa ?_ | refine sLk ?_ | refine sUp ?_ | refine sDel ?_ | refine sSt ?_ | refine sLU ?_ | refine sXw ?_ | refine sLe ?_ | refine sSe ?_ | refine sM ?_ | refine sA ?_ | refine sA0 ?_ | refine sA1 ?_ | refine sMk ?_ | refine sV ?_ | refine sW ?_ | refine tSA ?_ | refine tL ?_ | refine tQ ?_ | refine tX ?_ | refine tXs ?_ | refine tK ?_ | refine tKa ?_ | refine tLk ?_ | refine tUp ?_ | refine tA ?_ | refine tA0 ?_ | refine tSt ?_ | refine tLU ?_ | refine tXw ?_ | refine tLe ?_ | refine tSe ?_ | refine tM ?_ | refine tN ?_ | refine tV ?_ | refine tW ?_ | fail)
  refine wLoop [0, 1, 5] 0 (a.length + 1) ?_
  refine (fun key => key a [] _ rfl rfl : (∀ (r1 d1 : List Span) (j : Int), a = d1 ++ r1 → j = d1.length →
    WR2 _ _ _ _ _ (r1.length + 1) [(0, lst Span.row a), (1, lst Span.row a), (5, int .i64 j)] []) → _) ?_
  intro r1
  induction r1 with
  | nil =>
    intro d1 j g1 hj
    have hlen : a.length = d1.length := by rw [g1]; simp
    refine wR (gI ?_)
    repeat' (first | ((first | refine runC ?_ | refine runC0 ?_ | refine runO ?_ | refine runR ?_); (conv => whnf); first | (refine ⟨fun hb => ?_, fun hb => ?_⟩ <;> try exact noWay) | refine oA ?_ | refine oB ?_ | refine oC ?_ | refine oR ?_ | refine fR ?_ | refine fRk ?_ | refine oF ?_) | refine sSA ?_ | refine sL ?_ | refine sQ ?_ | refine sX ?_ | refine sXa ?_ | refine sXs ?_ | refine sK ?_ | refine sKa ?_ | refine sLk ?_ | refine sUp ?_ | refine sDel ?_ | refine sSt ?_ | refine sLU ?_ | refine sXw ?_ | refine sLe ?_ | refine sSe ?_ | refine sM ?_ | refine sA ?_ | refine sA0 ?_ | refine sA1 ?_ | refine sMk ?_ | refine sV ?_ | refine sW ?_ | refine tSA ?_ | refine tL ?_ | refine tQ ?_ | refine tX ?_ | refine tXs ?_ | refine tK ?_ | refine tKa ?_ | refine tLk ?_ | refine tUp ?_ | refine tA ?_ | refine tA0 ?_ | refine tSt ?_ | refine tLU ?_ | refine tXw ?_ | refine tLe ?_ | refine tSe ?_ | refine tM ?_ | refine tN ?_ | refine tV ?_ | refine tW ?_ | fail)
    exact ⟨rfl, rfl⟩
  | cons x r1 ih =>
    intro d1 j g1 hj
    have hlen : a.length = d1.length + (r1.length + 1) := by rw [g1]; simp
    have hx := hok x (by rw [g1]; simp)
    have hc := sameStepsR x.steps x.steps hx.1 hx.2
    rw [pw_refl Stp.eqb_refl] at hc
    have b1 : (!(x.lo == x.lo)) = false := by simp
    have b2 : (!(x.hi == x.hi)) = false := by simp
    have b3 : (!(x.act.kind == x.act.kind && (x.act.data == x.act.data && true))) = false := by simp
    obtain ⟨x1, x2, xc, ⟨xk, xd⟩⟩ := x
    refine wR (gI ?_)
    repeat' (first | ((first | refine runC ?_ | refine runC0 ?_ | refine runO ?_ | refine runR ?_); (conv => whnf); first | (refine ⟨fun hb => ?_, fun hb => ?_⟩ <;> try exact noWay) | refine oA ?_ | refine oB ?_ | refine oC ?_ | refine oR ?_ | refine fR ?_ | refine fRk ?_ | refine oF ?_) | refine sC (hc) ?_ | refine sSA ?_ | refine sL ?_ | refine sQ ?_ | refine sX ?_ | refine sXa ?_ | refine sXs ?_ | refine sK ?_ | refine sKa ?_ | refine sLk ?_ | refine sUp ?_ | refine sDel ?_ | refine sSt ?_ | refine sLU ?_ | refine sXw ?_ | refine sLe ?_ | refine sSe ?_ | refine sM ?_ | refine sA ?_ | refine sA0 ?_ | refine sA1 ?_ | refine sMk ?_ | refine sV ?_ | refine sW ?_ | refine tC (hc) ?_ | refine tSA ?_ | refine tL ?_ | refine tQ ?_ | refine tX ?_ | refine tXs ?_ | refine tK ?_ | refine tKa ?_ | refine tLk ?_ | refine tUp ?_ | refine tA ?_ | refine tA0 ?_ | refine tSt ?_ | refine tLU ?_ | refine tXw ?_ | refine tLe ?_ | refine tSe ?_ | refine tM ?_ | refine tN ?_ | refine tV ?_ | refine tW ?_ | fail)
    refine rE (ih (d1 ++ [⟨x1, x2, xc, ⟨xk, xd⟩⟩]) _ (by simp [g1]) ?_)
    rw [wrap_ok (by omega) (by omega)]; simp [hj]
theorem addRefR (ep : Nat) (l : List Span) (x : Span) (hl : l.length ≤ 1000) (hs : ∀ y ∈ l, good y.steps) : Am.Spec Try.prog 39 [.one (.arr 0 ep (l.map Span.row).length), .agg (x.row.map .d)] [.arr ep true 5 (l.map Span.row)]
    (fun v s => v = .one (.arr 0 ep ((addF l x).map Span.row).length) ∧ s = [.arr ep true 5 ((addF l x).map Span.row)]) := by
  rcases List.eq_nil_or_concat l with rfl | ⟨ls, y, rfl⟩
  · obtain ⟨x1, x2, xc, ⟨xk, xd⟩⟩ := x
    refine Spec.body (C := cx [] 44) fits (fn := Try.f39) Try.func39 rfl (by decide) (by decide) (gI ?_)
    repeat' (first | refine fRk ?_ | ((first | refine runC ?_ | refine runC0 ?_ | refine runO ?_ | refine runR ?_); (conv => whnf); first | (refine ⟨fun hb => ?_, fun hb => ?_⟩ <;> try exact noWay) | refine oA ?_ | refine oB ?_ | refine oC ?_ | refine oR ?_ | refine fR ?_ | refine fRk ?_ | refine oF ?_) | refine sSA ?_ | refine sL ?_ | refine sQ ?_ | refine sX ?_ | refine sXa ?_ | refine sXs ?_ | refine sK ?_ | refine sKa ?_ | refine sLk ?_ | refine sUp ?_ | refine sDel ?_ | refine sSt ?_ | refine sLU ?_ | refine sXw ?_ | refine sLe ?_ | refine sSe ?_ | refine sM ?_ | refine sA ?_ | refine sA0 ?_ | refine sA1 ?_ | refine sMk ?_ | refine sV ?_ | refine sW ?_ | refine tSA ?_ | refine tL ?_ | refine tQ ?_ | refine tX ?_ | refine tXs ?_ | refine tK ?_ | refine tKa ?_ | refine tLk ?_ | refine tUp ?_ | refine tA ?_ | refine tA0 ?_ | refine tSt ?_ | refine tLU ?_ | refine tXw ?_ | refine tLe ?_ | refine tSe ?_ | refine tM ?_ | refine tN ?_ | refine tV ?_ | refine tW ?_ | fail)
    all_goals exact ⟨rfl, rfl⟩
  · rw [List.concat_eq_append] at *
    have hy := hs y (by simp)
    have hc := sameStepsR y.steps x.steps hy.1 hy.2
    have hlen : ((ls ++ [y]).map Span.row).length = ls.length + 1 := by simp
    have hl2 : ls.length + 1 ≤ 1000 := by simpa using hl
    have hj : IntKind.wrap .i64 ((((ls ++ [y]).map Span.row).length : Int) - 1) = ls.length := by
      rw [wrap_ok (by omega) (by omega)]; omega
    have hj0 : 0 ≤ IntKind.wrap .i64 ((((ls ++ [y]).map Span.row).length : Int) - 1) := by omega
    have hrow : ((ls ++ [y]).map Span.row)[(IntKind.wrap .i64 ((((ls ++ [y]).map Span.row).length : Int) - 1)).toNat]? = some y.row := by rw [hj]; simp
    rw [addF_last]
    have hxy : Span.like y x = ((y.act.kind == x.act.kind && (y.act.data == x.act.data && true)) && pw Stp.eqb y.steps x.steps) := rfl
    obtain ⟨x1, x2, xc, ⟨xk, xd⟩⟩ := x
    obtain ⟨y1, y2, yc, ⟨yk, yd⟩⟩ := y
    simp only at hxy
    refine Spec.body (C := cx [] 44) fits (fn := Try.f39) Try.func39 rfl (by decide) (by decide) (gI ?_)
    repeat' (first | refine fRk ?_ | ((first | refine runC ?_ | refine runC0 ?_ | refine runO ?_ | refine runR ?_); (conv => whnf); first | (refine ⟨fun hb => ?_, fun hb => ?_⟩ <;> try exact noWay) | refine oA ?_ | refine oB ?_ | refine oC ?_ | refine oR ?_ | refine fR ?_ | refine fRk ?_ | refine oF ?_) | refine sB (hc) (fun h1 => ?_) fun h1 => ?_ | refine sSA ?_ | refine sL ?_ | refine sQ ?_ | refine sX ?_ | refine sXa ?_ | refine sXs ?_ | refine sK ?_ | refine sKa ?_ | refine sLk ?_ | refine sUp ?_ | refine sDel ?_ | refine sSt ?_ | refine sLU ?_ | refine sXw ?_ | refine sLe ?_ | refine sSe ?_ | refine sM ?_ | refine sA ?_ | refine sA0 ?_ | refine sA1 ?_ | refine sMk ?_ | refine sV ?_ | refine sW ?_ | refine tB (hc) (fun h1 => ?_) fun h1 => ?_ | refine tSA ?_ | refine tL ?_ | refine tQ ?_ | refine tX ?_ | refine tXs ?_ | refine tK ?_ | refine tKa ?_ | refine tLk ?_ | refine tUp ?_ | refine tA ?_ | refine tA0 ?_ | refine tSt ?_ | refine tLU ?_ | refine tXw ?_ | refine tLe ?_ | refine tSe ?_ | refine tM ?_ | refine tN ?_ | refine tV ?_ | refine tW ?_ | fail)
    · have h : (yk == xk && (yd == xd && true)) = true := by assumption
      have h2 : pw Stp.eqb yc xc = true := h1
      rw [hxy, h, h2, Bool.and_self, if_pos rfl]
      have hset : ∀ r, List.set ((ls ++ [(⟨y1, y2, yc, ⟨yk, yd⟩⟩ : Span)]).map Span.row) (IntKind.wrap .i64 ((((ls ++ [(⟨y1, y2, yc, ⟨yk, yd⟩⟩ : Span)]).map Span.row).length : Int) - 1)).toNat r = ls.map Span.row ++ [r] := by
        intro r; rw [hj]; simp [List.set_append]
      exact ⟨by simp, congrArg (fun z => [Ob.arr ep true 5 z]) ((hset _).trans (by rw [List.map_append]; rfl))⟩
    · have h2 : pw Stp.eqb yc xc = false := h1
      rw [hxy, h2, Bool.and_false, if_neg (by simp)]
      have e : ∀ z : Span, ((ls ++ [(⟨y1, y2, yc, ⟨yk, yd⟩⟩ : Span)]) ++ [z]).map Span.row = (ls ++ [(⟨y1, y2, yc, ⟨yk, yd⟩⟩ : Span)]).map Span.row ++ [Span.row z] := fun z => List.map_append
      rw [e]
      exact ⟨rfl, rfl⟩
    · have h : (yk == xk && (yd == xd && true)) = false := by assumption
      rw [hxy, h, Bool.false_and, if_neg (by simp)]
      have e : ∀ z : Span, ((ls ++ [(⟨y1, y2, yc, ⟨yk, yd⟩⟩ : Span)]) ++ [z]).map Span.row = (ls ++ [(⟨y1, y2, yc, ⟨yk, yd⟩⟩ : Span)]).map Span.row ++ [Span.row z] := fun z => List.map_append
      rw [e]
      exact ⟨rfl, rfl⟩
    all_goals
      exfalso
      have h := of_decide_eq_false hb
      rw [hlen] at h
      omega
end Go.Proofs.Ytceccgnpkelpkaa
