/- A part of a proof: functions of the program, walked over the abstract machine. -/
import Derived.Test.YtceccgnpkelpkaaTypes
set_option linter.unusedVariables false
set_option linter.unusedSimpArgs false
namespace Go.Proofs.Ytceccgnpkelpkaa
open Go Go.Am Go.Proofs
attribute [local irreducible] W WL DL WO RoundEnd
set_option maxRecDepth 10000
set_option maxHeartbeats 4000000
structure Half where
  arg : Int
  op : Int
  high : Bool
  mask : Int
  value : Int
def Half.row (x : Half) : List D := [.sc (.int .i64 x.arg), .sc (.int .i64 x.op), .sc (.bool x.high), .sc (.int .u32 x.mask), .sc (.int .u32 x.value)]
def Half.eqb (a b : Half) : Bool := a.arg == b.arg && (a.op == b.op && (a.high == b.high && (a.mask == b.mask && (a.value == b.value && true))))
/-- a clause, as an element of a list -/
def crow (c : List Half) : List D := [.list (c.map Half.row)]
structure Stp where
  clauses : List (List Half)
  act : Act
def Stp.row (x : Stp) : List D := [.list (x.clauses.map crow), .sc (.int .i64 x.act.kind), .sc (.int .i64 x.act.data)]
def Act.eq2 (a b : Act) : Bool := a.kind == b.kind && (a.data == b.data && true)
def Stp.eqb (a b : Stp) : Bool := a.act.eq2 b.act && pw (pw Half.eqb) a.clauses b.clauses
structure Span where
  lo : Int
  hi : Int
  steps : List Stp
  act : Act
def Span.row (x : Span) : List D := [.sc (.int .u32 x.lo), .sc (.int .u32 x.hi), .list (x.steps.map Stp.row), .sc (.int .i64 x.act.kind), .sc (.int .i64 x.act.data)]
structure Chn where
  nr : Int
  steps : List Stp
def Chn.row (x : Chn) : List D := [.sc (.int .u32 x.nr), .list (x.steps.map Stp.row)]
/-- lists are no longer than memory allows -/
def Stp.ok (x : Stp) : Prop := x.clauses.length < 2 ^ 40 ∧ ∀ c ∈ x.clauses, c.length < 2 ^ 40
theorem eqHalfs (a b : List Half) (hla : a.length < 2 ^ 60) : Comp Try.prog 94 [lst Half.row a, lst Half.row b] (bool (pw Half.eqb a b)) := by
  refine Spec.body (C := cx [] 26) fits (fn := Try.f94) Try.func94 rfl (by decide) (by decide) (gI ?_)
  repeat' (first | ((first | refine runC ?_ | refine runC0 ?_ | refine runO ?_ | refine runR ?_); (conv => whnf); first | (refine ⟨fun hb => ?_, fun hb => ?_⟩ <;> try exact noWay) | refine oA ?_ | refine oB ?_ | refine oC ?_ | refine oR ?_ | refine fR ?_ | refine fRk ?_ | refine oF ?_) | refine sSA ?_ | refine sL ?_ | refine sQ ?_ | refine sX ?_ | refine sXa ?_ | refine sXs ?_ | refine sK ?_ | refine sKa ?_ | refine sLk ?_ | refine sUp ?_ | refine sDel ?_ | refine sSt ?_ | refine sLU ?_ | refine sXw ?_ | refine sLe ?_ | refine sSe ?_ | refine sM ?_ | refine sA ?_ | refine sA0 ?_ | refine sA1 ?_ | refine sMk ?_ | refine sV ?_ | refine sW ?_ | refine tSA ?_ | refine tL ?_ | refine tQ ?_ | refine tX ?_ | refine tXs ?_ | refine tK ?_ | refine tKa ?_ | refine tLk ?_ | refine tUp ?_ | refine tA ?_ | refine tA0 ?_ | refine tSt ?_ | refine tLU ?_ | refine tXw ?_ | refine tLe ?_ | refine tSe ?_ | refine tM ?_ | refine tN ?_ | refine tV ?_ | refine tW ?_ | fail)
  · refine ⟨?_, rfl⟩
    have hne : a.length ≠ b.length := by simp at hb; omega
    rw [pw_len hne]; rfl
  have hab : a.length = b.length := by simp at hb; omega
  refine wLoop [0, 1, 12, 13] 0 (a.length + 1) ?_
  refine (fun key => key a b [] [] _ rfl rfl rfl rfl hab rfl : (∀ (r1 r2 d1 d2 : List Half) (j : Int), a = d1 ++ r1 → b = d2 ++ r2 → j = d1.length → j = d2.length → r1.length = r2.length → pw Half.eqb a b = pw Half.eqb r1 r2 →
    WR2 _ _ _ _ _ (r1.length + 1) [(0, lst Half.row a), (1, lst Half.row b), (12, int .i64 (a.map Half.row).length), (13, int .i64 j)] []) → _) ?_
  intro r1
  induction r1 with
  | nil =>
    intro r2 d1 d2 j g1 g2 hj hj2 hr hs
    have hlen : a.length = d1.length := by rw [g1]; simp
    have : r2 = [] := List.length_eq_zero_iff.1 (by simpa using hr.symm)
    subst this
    refine wR (gI ?_)
    repeat' (first | ((first | refine runC ?_ | refine runC0 ?_ | refine runO ?_ | refine runR ?_); (conv => whnf); first | (refine ⟨fun hb => ?_, fun hb => ?_⟩ <;> try exact noWay) | refine oA ?_ | refine oB ?_ | refine oC ?_ | refine oR ?_ | refine fR ?_ | refine fRk ?_ | refine oF ?_) | refine sSA ?_ | refine sL ?_ | refine sQ ?_ | refine sX ?_ | refine sXa ?_ | refine sXs ?_ | refine sK ?_ | refine sKa ?_ | refine sLk ?_ | refine sUp ?_ | refine sDel ?_ | refine sSt ?_ | refine sLU ?_ | refine sXw ?_ | refine sLe ?_ | refine sSe ?_ | refine sM ?_ | refine sA ?_ | refine sA0 ?_ | refine sA1 ?_ | refine sMk ?_ | refine sV ?_ | refine sW ?_ | refine tSA ?_ | refine tL ?_ | refine tQ ?_ | refine tX ?_ | refine tXs ?_ | refine tK ?_ | refine tKa ?_ | refine tLk ?_ | refine tUp ?_ | refine tA ?_ | refine tA0 ?_ | refine tSt ?_ | refine tLU ?_ | refine tXw ?_ | refine tLe ?_ | refine tSe ?_ | refine tM ?_ | refine tN ?_ | refine tV ?_ | refine tW ?_ | fail)
    exact ⟨by rw [hs]; rfl, rfl⟩
  | cons x r1 ih =>
    intro r2 d1 d2 j g1 g2 hj hj2 hr hs
    rcases r2 with _ | ⟨y, r2⟩
    · simp at hr
    have hlen : a.length = d1.length + (r1.length + 1) := by rw [g1]; simp
    have hxy : Half.eqb x y = (x.arg == y.arg && (x.op == y.op && (x.high == y.high && (x.mask == y.mask && (x.value == y.value && true))))) := rfl
    obtain ⟨xa, xo, xh, xm, xv⟩ := x
    obtain ⟨ya, yo, yh, ym, yv⟩ := y
    refine wR (gI ?_)
    repeat' (first | ((first | refine runC ?_ | refine runC0 ?_ | refine runO ?_ | refine runR ?_); (conv => whnf); first | (refine ⟨fun hb => ?_, fun hb => ?_⟩ <;> try exact noWay) | refine oA ?_ | refine oB ?_ | refine oC ?_ | refine oR ?_ | refine fR ?_ | refine fRk ?_ | refine oF ?_) | refine sSA ?_ | refine sL ?_ | refine sQ ?_ | refine sX ?_ | refine sXa ?_ | refine sXs ?_ | refine sK ?_ | refine sKa ?_ | refine sLk ?_ | refine sUp ?_ | refine sDel ?_ | refine sSt ?_ | refine sLU ?_ | refine sXw ?_ | refine sLe ?_ | refine sSe ?_ | refine sM ?_ | refine sA ?_ | refine sA0 ?_ | refine sA1 ?_ | refine sMk ?_ | refine sV ?_ | refine sW ?_ | refine tSA ?_ | refine tL ?_ | refine tQ ?_ | refine tX ?_ | refine tXs ?_ | refine tK ?_ | refine tKa ?_ | refine tLk ?_ | refine tUp ?_ | refine tA ?_ | refine tA0 ?_ | refine tSt ?_ | refine tLU ?_ | refine tXw ?_ | refine tLe ?_ | refine tSe ?_ | refine tM ?_ | refine tN ?_ | refine tV ?_ | refine tW ?_ | fail)
    · have h1 : Half.eqb ⟨xa, xo, xh, xm, xv⟩ ⟨ya, yo, yh, ym, yv⟩ = false := by
        rw [hxy]
        have h : (!(xa == ya && (xo == yo && (xh == yh && (xm == ym && (xv == yv && true)))))) = true := hb
        rwa [Bool.not_eq_true'] at h
      exact ⟨by rw [hs, pw, h1]; rfl, rfl⟩
    · have h1 : Half.eqb ⟨xa, xo, xh, xm, xv⟩ ⟨ya, yo, yh, ym, yv⟩ = true := by
        rw [hxy]
        have h : (!(xa == ya && (xo == yo && (xh == yh && (xm == ym && (xv == yv && true)))))) = false := hb
        rwa [Bool.not_eq_false'] at h
      refine rE (ih r2 (d1 ++ [⟨xa, xo, xh, xm, xv⟩]) (d2 ++ [⟨ya, yo, yh, ym, yv⟩]) _ ?_ ?_ ?_ ?_ ?_ ?_)
      · simp [g1]
      · simp [g2]
      · rw [wrap_ok (by omega) (by omega)]; simp [hj]
      · rw [wrap_ok (by omega) (by omega)]; simp [hj2]
      · simpa using hr
      · rw [hs, pw, h1]; rfl
theorem eqClauses (g : FuncId) (p : List Half → List Half → Bool) (a b : List (List Half)) (hla : a.length < 2 ^ 60) (hg : ∀ x ∈ a, ∀ y, Comp Try.prog g [lst Half.row x, lst Half.row y] (bool (p x y))) : Comp Try.prog 92 [lst crow a, lst crow b, .one (.fn (.func g) [] [])] (bool (pw p a b)) := by
  refine Spec.body (C := cx [] 32) fits (fn := Try.f92) Try.func92 rfl (by decide) (by decide) (gI ?_)
  repeat' (first | ((first | refine runC ?_ | refine runC0 ?_ | refine runO ?_ | refine runR ?_); (conv => whnf); first | (refine ⟨fun hb => ?_, fun hb => ?_⟩ <;> try exact noWay) | refine oA ?_ | refine oB ?_ | refine oC ?_ | refine oR ?_ | refine fR ?_ | refine fRk ?_ | refine oF ?_) | refine sSA ?_ | refine sL ?_ | refine sQ ?_ | refine sX ?_ | refine sXa ?_ | refine sXs ?_ | refine sK ?_ | refine sKa ?_ | refine sLk ?_ | refine sUp ?_ | refine sDel ?_ | refine sSt ?_ | refine sLU ?_ | refine sXw ?_ | refine sLe ?_ | refine sSe ?_ | refine sM ?_ | refine sA ?_ | refine sA0 ?_ | refine sA1 ?_ | refine sMk ?_ | refine sV ?_ | refine sW ?_ | fail)
  · refine ⟨?_, rfl⟩
    have hne : a.length ≠ b.length := by simp at hb; omega
    rw [pw_len hne]; rfl
  have hab : a.length = b.length := by simp at hb; omega
  refine wLoop [1, 2, 15, 16, 17] 0 (a.length + 1) ?_
  refine (fun key => key a b [] [] _ rfl rfl rfl rfl hab rfl : (∀ (r1 r2 d1 d2 : List (List Half)) (j : Int), a = d1 ++ r1 → b = d2 ++ r2 → j = d1.length → j = d2.length → r1.length = r2.length → pw p a b = pw p r1 r2 →
    WR2 _ _ _ _ _ (r1.length + 1) [(1, lst crow b), (2, .one (.fn (.func g) [] [])), (15, lst crow a), (16, int .i64 (a.map (crow)).length), (17, int .i64 j)] []) → _) ?_
  intro r1
  induction r1 with
  | nil =>
    intro r2 d1 d2 j g1 g2 hj hj2 hr hs
    have hlen : a.length = d1.length := by rw [g1]; simp
    have : r2 = [] := List.length_eq_zero_iff.1 (by simpa using hr.symm)
    subst this
    refine wR (gI ?_)
    repeat' (first | ((first | refine runC ?_ | refine runC0 ?_ | refine runO ?_ | refine runR ?_); (conv => whnf); first | (refine ⟨fun hb => ?_, fun hb => ?_⟩ <;> try exact noWay) | refine oA ?_ | refine oB ?_ | refine oC ?_ | refine oR ?_ | refine fR ?_ | refine fRk ?_ | refine oF ?_) | refine sSA ?_ | refine sL ?_ | refine sQ ?_ | refine sX ?_ | refine sXa ?_ | refine sXs ?_ | refine sK ?_ | refine sKa ?_ | refine sLk ?_ | refine sUp ?_ | refine sDel ?_ | refine sSt ?_ | refine sLU ?_ | refine sXw ?_ | refine sLe ?_ | refine sSe ?_ | refine sM ?_ | refine sA ?_ | refine sA0 ?_ | refine sA1 ?_ | refine sMk ?_ | refine sV ?_ | refine sW ?_ | fail)
    exact ⟨by rw [hs]; rfl, rfl⟩
  | cons x r1 ih =>
    intro r2 d1 d2 j g1 g2 hj hj2 hr hs
    rcases r2 with _ | ⟨y, r2⟩
    · simp at hr
    have hlen : a.length = d1.length + (r1.length + 1) := by rw [g1]; simp
    have hc := hg x (by rw [g1]; simp) y
    refine wR (gI ?_)
    repeat' (first | ((first | refine runC ?_ | refine runC0 ?_ | refine runO ?_ | refine runR ?_); (conv => whnf); first | (refine ⟨fun hb => ?_, fun hb => ?_⟩ <;> try exact noWay) | refine oA ?_ | refine oB ?_ | refine oC ?_ | refine oR ?_ | refine fR ?_ | refine fRk ?_ | refine oF ?_) | refine sB (hc) (fun h1 => ?_) fun h1 => ?_ | refine sSA ?_ | refine sL ?_ | refine sQ ?_ | refine sX ?_ | refine sXa ?_ | refine sXs ?_ | refine sK ?_ | refine sKa ?_ | refine sLk ?_ | refine sUp ?_ | refine sDel ?_ | refine sSt ?_ | refine sLU ?_ | refine sXw ?_ | refine sLe ?_ | refine sSe ?_ | refine sM ?_ | refine sA ?_ | refine sA0 ?_ | refine sA1 ?_ | refine sMk ?_ | refine sV ?_ | refine sW ?_ | fail)
    · refine rE (ih r2 (d1 ++ [x]) (d2 ++ [y]) _ ?_ ?_ ?_ ?_ ?_ ?_)
      · simp [g1]
      · simp [g2]
      · rw [wrap_ok (by omega) (by omega)]; simp [hj]
      · rw [wrap_ok (by omega) (by omega)]; simp [hj2]
      · simpa using hr
      · rw [hs, pw, h1]; rfl
    · exact ⟨by rw [hs, pw, h1]; rfl, rfl⟩
theorem eqSteps (g : FuncId) (p : Stp → Stp → Bool) (a b : List (Stp)) (hla : a.length < 2 ^ 60) (hg : ∀ x ∈ a, ∀ y, Comp Try.prog g [.agg ((Stp.row x).map .d), .agg ((Stp.row y).map .d)] (bool (p x y))) : Comp Try.prog 78 [lst Stp.row a, lst Stp.row b, .one (.fn (.func g) [] [])] (bool (pw p a b)) := by
  refine Spec.body (C := cx [] 32) fits (fn := Try.f78) Try.func78 rfl (by decide) (by decide) (gI ?_)
  repeat' (first | ((first | refine runC ?_ | refine runC0 ?_ | refine runO ?_ | refine runR ?_); (conv => whnf); first | (refine ⟨fun hb => ?_, fun hb => ?_⟩ <;> try exact noWay) | refine oA ?_ | refine oB ?_ | refine oC ?_ | refine oR ?_ | refine fR ?_ | refine fRk ?_ | refine oF ?_) | refine sSA ?_ | refine sL ?_ | refine sQ ?_ | refine sX ?_ | refine sXa ?_ | refine sXs ?_ | refine sK ?_ | refine sKa ?_ | refine sLk ?_ | refine sUp ?_ | refine sDel ?_ | refine sSt ?_ | refine sLU ?_ | refine sXw ?_ | refine sLe ?_ | refine sSe ?_ | refine sM ?_ | refine sA ?_ | refine sA0 ?_ | refine sA1 ?_ | refine sMk ?_ | refine sV ?_ | refine sW ?_ | fail)
  · refine ⟨?_, rfl⟩
    have hne : a.length ≠ b.length := by simp at hb; omega
    rw [pw_len hne]; rfl
  have hab : a.length = b.length := by simp at hb; omega
  refine wLoop [1, 2, 15, 16, 17] 0 (a.length + 1) ?_
  refine (fun key => key a b [] [] _ rfl rfl rfl rfl hab rfl : (∀ (r1 r2 d1 d2 : List (Stp)) (j : Int), a = d1 ++ r1 → b = d2 ++ r2 → j = d1.length → j = d2.length → r1.length = r2.length → pw p a b = pw p r1 r2 →
    WR2 _ _ _ _ _ (r1.length + 1) [(1, lst Stp.row b), (2, .one (.fn (.func g) [] [])), (15, lst Stp.row a), (16, int .i64 (a.map (Stp.row)).length), (17, int .i64 j)] []) → _) ?_
  intro r1
  induction r1 with
  | nil =>
    intro r2 d1 d2 j g1 g2 hj hj2 hr hs
    have hlen : a.length = d1.length := by rw [g1]; simp
    have : r2 = [] := List.length_eq_zero_iff.1 (by simpa using hr.symm)
    subst this
    refine wR (gI ?_)
    repeat' (first | ((first | refine runC ?_ | refine runC0 ?_ | refine runO ?_ | refine runR ?_); (conv => whnf); first | (refine ⟨fun hb => ?_, fun hb => ?_⟩ <;> try exact noWay) | refine oA ?_ | refine oB ?_ | refine oC ?_ | refine oR ?_ | refine fR ?_ | refine fRk ?_ | refine oF ?_) | refine sSA ?_ | refine sL ?_ | refine sQ ?_ | refine sX ?_ | refine sXa ?_ | refine sXs ?_ | refine sK ?_ | refine sKa ?_ | refine sLk ?_ | refine sUp ?_ | refine sDel ?_ | refine sSt ?_ | refine sLU ?_ | refine sXw ?_ | refine sLe ?_ | refine sSe ?_ | refine sM ?_ | refine sA ?_ | refine sA0 ?_ | refine sA1 ?_ | refine sMk ?_ | refine sV ?_ | refine sW ?_ | fail)
    exact ⟨by rw [hs]; rfl, rfl⟩
  | cons x r1 ih =>
    intro r2 d1 d2 j g1 g2 hj hj2 hr hs
    rcases r2 with _ | ⟨y, r2⟩
    · simp at hr
    have hlen : a.length = d1.length + (r1.length + 1) := by rw [g1]; simp
    have hc := hg x (by rw [g1]; simp) y
    obtain ⟨xc, ⟨xk, xd⟩⟩ := x
    obtain ⟨yc, ⟨yk, yd⟩⟩ := y
    refine wR (gI ?_)
    repeat' (first | ((first | refine runC ?_ | refine runC0 ?_ | refine runO ?_ | refine runR ?_); (conv => whnf); first | (refine ⟨fun hb => ?_, fun hb => ?_⟩ <;> try exact noWay) | refine oA ?_ | refine oB ?_ | refine oC ?_ | refine oR ?_ | refine fR ?_ | refine fRk ?_ | refine oF ?_) | refine sB (hc) (fun h1 => ?_) fun h1 => ?_ | refine sSA ?_ | refine sL ?_ | refine sQ ?_ | refine sX ?_ | refine sXa ?_ | refine sXs ?_ | refine sK ?_ | refine sKa ?_ | refine sLk ?_ | refine sUp ?_ | refine sDel ?_ | refine sSt ?_ | refine sLU ?_ | refine sXw ?_ | refine sLe ?_ | refine sSe ?_ | refine sM ?_ | refine sA ?_ | refine sA0 ?_ | refine sA1 ?_ | refine sMk ?_ | refine sV ?_ | refine sW ?_ | fail)
    · refine rE (ih r2 (d1 ++ [⟨xc, ⟨xk, xd⟩⟩]) (d2 ++ [⟨yc, ⟨yk, yd⟩⟩]) _ ?_ ?_ ?_ ?_ ?_ ?_)
      · simp [g1]
      · simp [g2]
      · rw [wrap_ok (by omega) (by omega)]; simp [hj]
      · rw [wrap_ok (by omega) (by omega)]; simp [hj2]
      · simpa using hr
      · rw [hs, pw, h1]; rfl
    · exact ⟨by rw [hs, pw, h1]; rfl, rfl⟩
theorem sameClause (a b : List Half) (h : a.length < 2 ^ 60) : Comp Try.prog 93 [lst Half.row a, lst Half.row b] (bool (pw Half.eqb a b)) := by
  have c1 := eqHalfs a b h
  refine Spec.body (C := cx [] 8) fits (fn := Try.f93) Try.func93 rfl (by decide) (by decide) (gI ?_)
  repeat' (first | ((first | refine runC ?_ | refine runC0 ?_ | refine runO ?_ | refine runR ?_); (conv => whnf); first | (refine ⟨fun hb => ?_, fun hb => ?_⟩ <;> try exact noWay) | refine oA ?_ | refine oB ?_ | refine oC ?_ | refine oR ?_ | refine fR ?_ | refine fRk ?_ | refine oF ?_) | refine sB (c1) (fun h1 => ?_) fun h1 => ?_ | refine sSA ?_ | refine sL ?_ | refine sQ ?_ | refine sX ?_ | refine sXa ?_ | refine sXs ?_ | refine sK ?_ | refine sKa ?_ | refine sLk ?_ | refine sUp ?_ | refine sDel ?_ | refine sSt ?_ | refine sLU ?_ | refine sXw ?_ | refine sLe ?_ | refine sSe ?_ | refine sM ?_ | refine sA ?_ | refine sA0 ?_ | refine sA1 ?_ | refine sMk ?_ | refine sV ?_ | refine sW ?_ | fail)
  all_goals exact ⟨by rw [h1]; rfl, rfl⟩
theorem sameStepR (a b : Stp) (h : a.ok) : Comp Try.prog 79 [.agg (a.row.map .d), .agg (b.row.map .d)] (bool (a.eqb b)) := by
  have c1 := eqClauses 93 (pw Half.eqb) a.clauses b.clauses (by have := h.1; omega) (fun x hx y => sameClause x y (by have := h.2 x hx; omega))
  have hx : a.eqb b = (a.act.eq2 b.act && pw (pw Half.eqb) a.clauses b.clauses) := rfl
  rw [hx]
  obtain ⟨xc, ⟨xk, xd⟩⟩ := a
  obtain ⟨yc, ⟨yk, yd⟩⟩ := b
  have h2 : Act.eq2 ⟨xk, xd⟩ ⟨yk, yd⟩ = (xk == yk && (xd == yd && true)) := rfl
  simp only [h2]
  refine Spec.body (C := cx [] 17) fits (fn := Try.f79) Try.func79 rfl (by decide) (by decide) (gI ?_)
  repeat' (first | ((first | refine runC ?_ | refine runC0 ?_ | refine runO ?_ | refine runR ?_); (conv => whnf); first | (refine ⟨fun hb => ?_, fun hb => ?_⟩ <;> try exact noWay) | refine oA ?_ | refine oB ?_ | refine oC ?_ | refine oR ?_ | refine fR ?_ | refine fRk ?_ | refine oF ?_) | refine sB (c1) (fun h1 => ?_) fun h1 => ?_ | refine sSA ?_ | refine sL ?_ | refine sQ ?_ | refine sX ?_ | refine sXa ?_ | refine sXs ?_ | refine sK ?_ | refine sKa ?_ | refine sLk ?_ | refine sUp ?_ | refine sDel ?_ | refine sSt ?_ | refine sLU ?_ | refine sXw ?_ | refine sLe ?_ | refine sSe ?_ | refine sM ?_ | refine sA ?_ | refine sA0 ?_ | refine sA1 ?_ | refine sMk ?_ | refine sV ?_ | refine sW ?_ | fail)
  · exact ⟨by rw [h1, show (xk == yk && (xd == yd && true)) = true by assumption]; rfl, rfl⟩
  · exact ⟨by rw [h1, show (xk == yk && (xd == yd && true)) = true by assumption]; rfl, rfl⟩
  · exact ⟨by rw [show (xk == yk && (xd == yd && true)) = false by assumption]; rfl, rfl⟩
def Span.like (a b : Span) : Bool := a.act.eq2 b.act && pw Stp.eqb a.steps b.steps
theorem alikeR (a b : Span) (h : a.steps.length < 2 ^ 60) (hs : ∀ x ∈ a.steps, x.ok) : Comp Try.prog 60 [.agg (a.row.map .d), .agg (b.row.map .d)] (bool (a.like b)) := by
  have c1 := eqSteps 79 Stp.eqb a.steps b.steps h (fun x hx y => sameStepR x y (hs x hx))
  have hx : a.like b = (a.act.eq2 b.act && pw Stp.eqb a.steps b.steps) := rfl
  rw [hx]
  obtain ⟨x1, x2, xc, ⟨xk, xd⟩⟩ := a
  obtain ⟨y1, y2, yc, ⟨yk, yd⟩⟩ := b
  have h2 : Act.eq2 ⟨xk, xd⟩ ⟨yk, yd⟩ = (xk == yk && (xd == yd && true)) := rfl
  simp only [h2]
  refine Spec.body (C := cx [] 17) fits (fn := Try.f60) Try.func60 rfl (by decide) (by decide) (gI ?_)
  repeat' (first | ((first | refine runC ?_ | refine runC0 ?_ | refine runO ?_ | refine runR ?_); (conv => whnf); first | (refine ⟨fun hb => ?_, fun hb => ?_⟩ <;> try exact noWay) | refine oA ?_ | refine oB ?_ | refine oC ?_ | refine oR ?_ | refine fR ?_ | refine fRk ?_ | refine oF ?_) | refine sB (c1) (fun h1 => ?_) fun h1 => ?_ | refine sSA ?_ | refine sL ?_ | refine sQ ?_ | refine sX ?_ | refine sXa ?_ | refine sXs ?_ | refine sK ?_ | refine sKa ?_ | refine sLk ?_ | refine sUp ?_ | refine sDel ?_ | refine sSt ?_ | refine sLU ?_ | refine sXw ?_ | refine sLe ?_ | refine sSe ?_ | refine sM ?_ | refine sA ?_ | refine sA0 ?_ | refine sA1 ?_ | refine sMk ?_ | refine sV ?_ | refine sW ?_ | fail)
  · exact ⟨by rw [h1, show (xk == yk && (xd == yd && true)) = true by assumption]; rfl, rfl⟩
  · exact ⟨by rw [h1, show (xk == yk && (xd == yd && true)) = true by assumption]; rfl, rfl⟩
  · exact ⟨by rw [show (xk == yk && (xd == yd && true)) = false by assumption]; rfl, rfl⟩
end Go.Proofs.Ytceccgnpkelpkaa
