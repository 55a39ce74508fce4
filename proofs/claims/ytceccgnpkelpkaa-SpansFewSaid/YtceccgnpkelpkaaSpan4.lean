/- A part of a proof: functions of the program, walked over the abstract machine. -/
import Derived.Test.YtceccgnpkelpkaaSpan3
set_option linter.unusedVariables false
set_option linter.unusedSimpArgs false
namespace Go.Proofs.Ytceccgnpkelpkaa
open Go Go.Am Go.Proofs
attribute [local irreducible] W WL DL WO RoundEnd
set_option maxRecDepth 10000
set_option maxHeartbeats 4000000
/-- the first that is so -/
def ixF {α : Type} (p : α → Bool) : List α → Int → Int
  | [], _ => -1
  | x :: r, j => if p x then j else ixF p r (j + 1)
theorem ixF_ge {α : Type} (p : α → Bool) : ∀ (l : List α) (j : Int), 0 ≤ j → (0 ≤ ixF p l j ↔ l.any p = true)
  | [], j, _ => by simp [ixF]
  | x :: r, j, h => by
    rw [ixF, List.any_cons]
    cases e : p x with
    | true => simp [h]
    | false => simp only [Bool.false_eq_true, if_false, Bool.false_or]; exact ixF_ge p r (j + 1) (by omega)
theorem ixF_lt {α : Type} (p : α → Bool) : ∀ (l : List α) (j : Int), -1 ≤ j → -1 ≤ ixF p l j ∧ ixF p l j ≤ j + l.length
  | [], j, h => by simp only [ixF, List.length_nil]; omega
  | x :: r, j, h => by
    rw [ixF]
    split
    · simp only [List.length_cons]; omega
    · have := ixF_lt p r (j + 1) (by omega)
      simp only [List.length_cons]; omega
def noneF (c : List Half) : Bool := c.isEmpty
theorem endsClo (c : List Half) : Comp Try.prog 82 [lst Half.row c] (bool (noneF c)) := by
  rcases c with _ | ⟨x, c⟩
  · refine Spec.body (C := cx [] 6) fits (fn := Try.f82) Try.func82 rfl (by decide) (by decide) (gI ?_)
    repeat' (first | ((first | refine runC ?_ | refine runC0 ?_ | refine runO ?_ | refine runR ?_); (conv => whnf); first | (refine ⟨fun hb => ?_, fun hb => ?_⟩ <;> try exact noWay) | refine oA ?_ | refine oB ?_ | refine oC ?_ | refine oR ?_ | refine fR ?_ | refine fRk ?_ | refine oF ?_) | refine sSA ?_ | refine sL ?_ | refine sQ ?_ | refine sX ?_ | refine sXa ?_ | refine sXs ?_ | refine sK ?_ | refine sKa ?_ | refine sLk ?_ | refine sUp ?_ | refine sDel ?_ | refine sSt ?_ | refine sLU ?_ | refine sXw ?_ | refine sLe ?_ | refine sSe ?_ | refine sM ?_ | refine sA ?_ | refine sA0 ?_ | refine sA1 ?_ | refine sMk ?_ | refine sV ?_ | refine sW ?_ | fail)
    all_goals first | exact ⟨rfl, rfl⟩ | (exfalso; simp at hb; done)
  · refine Spec.body (C := cx [] 6) fits (fn := Try.f82) Try.func82 rfl (by decide) (by decide) (gI ?_)
    repeat' (first | ((first | refine runC ?_ | refine runC0 ?_ | refine runO ?_ | refine runR ?_); (conv => whnf); first | (refine ⟨fun hb => ?_, fun hb => ?_⟩ <;> try exact noWay) | refine oA ?_ | refine oB ?_ | refine oC ?_ | refine oR ?_ | refine fR ?_ | refine fRk ?_ | refine oF ?_) | refine sSA ?_ | refine sL ?_ | refine sQ ?_ | refine sX ?_ | refine sXa ?_ | refine sXs ?_ | refine sK ?_ | refine sKa ?_ | refine sLk ?_ | refine sUp ?_ | refine sDel ?_ | refine sSt ?_ | refine sLU ?_ | refine sXw ?_ | refine sLe ?_ | refine sSe ?_ | refine sM ?_ | refine sA ?_ | refine sA0 ?_ | refine sA1 ?_ | refine sMk ?_ | refine sV ?_ | refine sW ?_ | fail)
    all_goals first | exact ⟨rfl, rfl⟩ | (exfalso; simp at hb; omega)
theorem ixHalfs (g : FuncId) (p : List Half → Bool) (l : List (List Half)) (hl : l.length < 2 ^ 60) (hg : ∀ x, Comp Try.prog g [lst Half.row x] (bool (p x))) : Comp Try.prog 95 [lst crow l, .one (.fn (.func g) [] [])] (int .i64 (ixF p l 0)) := by
  generalize hfb : ixF p l 0 = fb
  refine Spec.body (C := cx [] 19) fits (fn := Try.f95) Try.func95 rfl (by decide) (by decide) (gI ?_)
  repeat' (first | ((first | refine runC ?_ | refine runC0 ?_ | refine runO ?_ | refine runR ?_); (conv => whnf); first | (refine ⟨fun hb => ?_, fun hb => ?_⟩ <;> try exact noWay) | refine oA ?_ | refine oB ?_ | refine oC ?_ | refine oR ?_ | refine fR ?_ | refine fRk ?_ | refine oF ?_) | refine sSA ?_ | refine sL ?_ | refine sQ ?_ | refine sX ?_ | refine sXa ?_ | refine sXs ?_ | refine sK ?_ | refine sKa ?_ | refine sLk ?_ | refine sUp ?_ | refine sDel ?_ | refine sSt ?_ | refine sLU ?_ | refine sXw ?_ | refine sLe ?_ | refine sSe ?_ | refine sM ?_ | refine sA ?_ | refine sA0 ?_ | refine sA1 ?_ | refine sMk ?_ | refine sV ?_ | refine sW ?_ | fail)
  refine wLoop [0, 1, 7, 8] 0 (l.length + 1) ?_
  refine (fun key => key l [] _ rfl rfl hfb.symm :
    (∀ (rest done : List (List Half)) (j : Int), l = done ++ rest → j = done.length → fb = ixF p rest j →
    WR2 _ _ _ _ _ (rest.length + 1) [(0, lst crow l), (1, .one (.fn (.func g) [] [])), (7, int .i64 (l.map crow).length), (8, int .i64 j)] []) → _) ?_
  intro rest
  induction rest with
  | nil =>
    intro done j h1 hj hr
    have hlen : l.length = done.length := by rw [h1]; simp
    refine wR (gI ?_)
    repeat' (first | ((first | refine runC ?_ | refine runC0 ?_ | refine runO ?_ | refine runR ?_); (conv => whnf); first | (refine ⟨fun hb => ?_, fun hb => ?_⟩ <;> try exact noWay) | refine oA ?_ | refine oB ?_ | refine oC ?_ | refine oR ?_ | refine fR ?_ | refine fRk ?_ | refine oF ?_) | refine sSA ?_ | refine sL ?_ | refine sQ ?_ | refine sX ?_ | refine sXa ?_ | refine sXs ?_ | refine sK ?_ | refine sKa ?_ | refine sLk ?_ | refine sUp ?_ | refine sDel ?_ | refine sSt ?_ | refine sLU ?_ | refine sXw ?_ | refine sLe ?_ | refine sSe ?_ | refine sM ?_ | refine sA ?_ | refine sA0 ?_ | refine sA1 ?_ | refine sMk ?_ | refine sV ?_ | refine sW ?_ | fail)
    exact ⟨by rw [hr]; rfl, rfl⟩
  | cons x rest ih =>
    intro done j h1 hj hr
    have hlen : l.length = done.length + (rest.length + 1) := by rw [h1]; simp
    have hc := hg x
    rw [ixF] at hr
    refine wR (gI ?_)
    repeat' (first | ((first | refine runC ?_ | refine runC0 ?_ | refine runO ?_ | refine runR ?_); (conv => whnf); first | (refine ⟨fun hb => ?_, fun hb => ?_⟩ <;> try exact noWay) | refine oA ?_ | refine oB ?_ | refine oC ?_ | refine oR ?_ | refine fR ?_ | refine fRk ?_ | refine oF ?_) | refine sB (hc) (fun hp => ?_) fun hp => ?_ | refine sSA ?_ | refine sL ?_ | refine sQ ?_ | refine sX ?_ | refine sXa ?_ | refine sXs ?_ | refine sK ?_ | refine sKa ?_ | refine sLk ?_ | refine sUp ?_ | refine sDel ?_ | refine sSt ?_ | refine sLU ?_ | refine sXw ?_ | refine sLe ?_ | refine sSe ?_ | refine sM ?_ | refine sA ?_ | refine sA0 ?_ | refine sA1 ?_ | refine sMk ?_ | refine sV ?_ | refine sW ?_ | fail)
    · rw [hp] at hr
      exact ⟨by rw [hr]; rfl, rfl⟩
    · rw [hp] at hr
      refine rE (ih (done ++ [x]) _ (by rw [h1]; simp) ?_ ?_)
      · rw [wrap_ok (by omega) (by omega)]; simp [hj]
      · rw [hr, wrap_ok (by omega) (by omega)]; rfl
theorem conHalfs (g : FuncId) (p : List Half → Bool) (l : List (List Half)) (hl : l.length < 2 ^ 60) (hg : ∀ x, Comp Try.prog g [lst Half.row x] (bool (p x))) : Comp Try.prog 81 [lst crow l, .one (.fn (.func g) [] [])] (bool (l.any p)) := by
  have hc := ixHalfs g p l hl hg
  have hge := ixF_ge p l 0 (by omega)
  refine Spec.body (C := cx [] 9) fits (fn := Try.f81) Try.func81 rfl (by decide) (by decide) (gI ?_)
  repeat' (first | ((first | refine runC ?_ | refine runC0 ?_ | refine runO ?_ | refine runR ?_); (conv => whnf); first | (refine ⟨fun hb => ?_, fun hb => ?_⟩ <;> try exact noWay) | refine oA ?_ | refine oB ?_ | refine oC ?_ | refine oR ?_ | refine fR ?_ | refine fRk ?_ | refine oF ?_) | refine sC (hc) ?_ | refine sSA ?_ | refine sL ?_ | refine sQ ?_ | refine sX ?_ | refine sXa ?_ | refine sXs ?_ | refine sK ?_ | refine sKa ?_ | refine sLk ?_ | refine sUp ?_ | refine sDel ?_ | refine sSt ?_ | refine sLU ?_ | refine sXw ?_ | refine sLe ?_ | refine sSe ?_ | refine sM ?_ | refine sA ?_ | refine sA0 ?_ | refine sA1 ?_ | refine sMk ?_ | refine sV ?_ | refine sW ?_ | fail)
  · have h : l.any p = true := hge.1 (by simpa using hb)
    exact ⟨by rw [h]; rfl, rfl⟩
  · have h : l.any p = false := by
      cases h : l.any p with
      | false => rfl
      | true => have := hge.2 h; simp at hb; omega
    exact ⟨by rw [h]; rfl, rfl⟩
def Stp.ends (s : Stp) : Bool := s.clauses.any noneF
theorem endsR (s : Stp) (h : s.clauses.length < 2 ^ 60) : Comp Try.prog 62 [.agg (s.row.map .d)] (bool s.ends) := by
  have c1 := conHalfs 82 noneF s.clauses h endsClo
  have hx : s.ends = s.clauses.any noneF := rfl
  rw [hx]
  obtain ⟨xc, ⟨xk, xd⟩⟩ := s
  refine Spec.body (C := cx [] 6) fits (fn := Try.f62) Try.func62 rfl (by decide) (by decide) (gI ?_)
  repeat' (first | ((first | refine runC ?_ | refine runC0 ?_ | refine runO ?_ | refine runR ?_); (conv => whnf); first | (refine ⟨fun hb => ?_, fun hb => ?_⟩ <;> try exact noWay) | refine oA ?_ | refine oB ?_ | refine oC ?_ | refine oR ?_ | refine fR ?_ | refine fRk ?_ | refine oF ?_) | refine sB (c1) (fun h1 => ?_) fun h1 => ?_ | refine sSA ?_ | refine sL ?_ | refine sQ ?_ | refine sX ?_ | refine sXa ?_ | refine sXs ?_ | refine sK ?_ | refine sKa ?_ | refine sLk ?_ | refine sUp ?_ | refine sDel ?_ | refine sSt ?_ | refine sLU ?_ | refine sXw ?_ | refine sLe ?_ | refine sSe ?_ | refine sM ?_ | refine sA ?_ | refine sA0 ?_ | refine sA1 ?_ | refine sMk ?_ | refine sV ?_ | refine sW ?_ | fail)
  all_goals exact ⟨by rw [h1]; rfl, rfl⟩
/-- how a chain leads: what its steps are, and then -/
def ledF : List Stp → Act → List Stp × Act
  | [], d => ([], d)
  | [s], d => if s.ends then ([], s.act) else ([s], d)
  | s :: t :: r, d => (s :: (ledF (t :: r) d).1, (ledF (t :: r) d).2)
theorem ledF_last (y : Stp) (d : Act) : ∀ l : List Stp, ledF (l ++ [y]) d = if y.ends then (l, y.act) else (l ++ [y], d)
  | [] => by simp only [List.nil_append, ledF]
  | [z] => by
    show (z :: (ledF ([] ++ [y]) d).1, (ledF ([] ++ [y]) d).2) = _
    rw [ledF_last y d []]; split <;> rfl
  | z :: w :: r => by
    show (z :: (ledF ((w :: r) ++ [y]) d).1, (ledF ((w :: r) ++ [y]) d).2) = _
    rw [ledF_last y d (w :: r)]; split <;> rfl
def Chn.led (c : Chn) (d : Act) : Span := ⟨c.nr, c.nr, (ledF c.steps d).1, (ledF c.steps d).2⟩
def Chn.ok (c : Chn) : Prop := c.steps.length < 2 ^ 40 ∧ ∀ s ∈ c.steps, s.ok
theorem ledR (c : Chn) (d : Act) (h : c.ok) : Comp Try.prog 38 [.agg (c.row.map .d), .agg (d.row.map .d)] (.agg ((c.led d).row.map .d)) := by
  have c1 := stepsCopy c.steps h.1 h.2
  have hh := h
  obtain ⟨nr, st⟩ := c
  rcases List.eq_nil_or_concat st with rfl | ⟨ls, y, rfl⟩
  · obtain ⟨dk, dd⟩ := d
    refine Spec.body (C := cx [] 43) fits (fn := Try.f38) Try.func38 rfl (by decide) (by decide) (gI ?_)
    repeat' (first | ((first | refine runC ?_ | refine runC0 ?_ | refine runO ?_ | refine runR ?_); (conv => whnf); first | (refine ⟨fun hb => ?_, fun hb => ?_⟩ <;> try exact noWay) | refine oA ?_ | refine oB ?_ | refine oC ?_ | refine oR ?_ | refine fR ?_ | refine fRk ?_ | refine oF ?_) | refine sC (c1) ?_ | refine sSA ?_ | refine sL ?_ | refine sQ ?_ | refine sX ?_ | refine sXa ?_ | refine sXs ?_ | refine sK ?_ | refine sKa ?_ | refine sLk ?_ | refine sUp ?_ | refine sDel ?_ | refine sSt ?_ | refine sLU ?_ | refine sXw ?_ | refine sLe ?_ | refine sSe ?_ | refine sM ?_ | refine sA ?_ | refine sA0 ?_ | refine sA1 ?_ | refine sMk ?_ | refine sV ?_ | refine sW ?_ | refine tC (c1) ?_ | refine tSA ?_ | refine tL ?_ | refine tQ ?_ | refine tX ?_ | refine tXs ?_ | refine tK ?_ | refine tKa ?_ | refine tLk ?_ | refine tUp ?_ | refine tA ?_ | refine tA0 ?_ | refine tSt ?_ | refine tLU ?_ | refine tXw ?_ | refine tLe ?_ | refine tSe ?_ | refine tM ?_ | refine tN ?_ | refine tV ?_ | refine tW ?_ | fail)
    all_goals exact ⟨rfl, rfl⟩
  · rw [List.concat_eq_append] at *
    have hy := hh.2 y (by simp)
    have hl2 : ls.length + 1 < 2 ^ 40 := by simpa using hh.1
    have c2 := endsR y (by have := hy.1; omega)
    have hj : IntKind.wrap .i64 ((((ls ++ [y]).map Stp.row).length : Int) - 1) = ls.length := by
      rw [wrap_ok (by simp only [List.length_map, List.length_append, List.length_cons, List.length_nil]; omega) (by simp only [List.length_map, List.length_append, List.length_cons, List.length_nil]; omega)]; simp
    have hj0 : 0 ≤ IntKind.wrap .i64 ((((ls ++ [y]).map Stp.row).length : Int) - 1) := by omega
    have hrow : ((ls ++ [y]).map Stp.row)[(IntKind.wrap .i64 ((((ls ++ [y]).map Stp.row).length : Int) - 1)).toNat]? = some y.row := by rw [hj]; simp
    have hj1 : IntKind.wrap .i64 ((((ls ++ [y]).map Stp.row).length : Int) - 1) ≤ (((ls ++ [y]).map Stp.row).length : Int) := by rw [hj]; simp; omega
    have hcut : List.drop (0 : Int).toNat (List.take (IntKind.wrap .i64 ((((ls ++ [y]).map Stp.row).length : Int) - 1)).toNat ((ls ++ [y]).map Stp.row)) = ls.map Stp.row := by
      rw [hj, List.map_append]
      have e : ((ls.length : Int)).toNat = (ls.map Stp.row).length := by simp
      rw [e, List.take_left]; rfl
    simp only [Chn.led, ledF_last]
    obtain ⟨dk, dd⟩ := d
    obtain ⟨yc, ⟨yk, yd⟩⟩ := y
    refine Spec.body (C := cx [] 43) fits (fn := Try.f38) Try.func38 rfl (by decide) (by decide) (gI ?_)
    repeat' (first | ((first | refine runC ?_ | refine runC0 ?_ | refine runO ?_ | refine runR ?_); (conv => whnf); first | (refine ⟨fun hb => ?_, fun hb => ?_⟩ <;> try exact noWay) | refine oA ?_ | refine oB ?_ | refine oC ?_ | refine oR ?_ | refine fR ?_ | refine fRk ?_ | refine oF ?_) | refine sC (c1) ?_ | refine sB (c2) (fun h1 => ?_) fun h1 => ?_ | refine fun k => lK fits (oW ?_ _) (h1 := by exact Int.le_refl _) (h2 := by exact hj0) (h3 := by exact hj1) (hr := by exact hcut) | refine sSA ?_ | refine sL ?_ | refine sQ ?_ | refine sX ?_ | refine sXa ?_ | refine sXs ?_ | refine sK ?_ | refine sKa ?_ | refine sLk ?_ | refine sUp ?_ | refine sDel ?_ | refine sSt ?_ | refine sLU ?_ | refine sXw ?_ | refine sLe ?_ | refine sSe ?_ | refine sM ?_ | refine sA ?_ | refine sA0 ?_ | refine sA1 ?_ | refine sMk ?_ | refine sV ?_ | refine sW ?_ | refine tC (c1) ?_ | refine tB (c2) (fun h1 => ?_) fun h1 => ?_ | refine tSA ?_ | refine tL ?_ | refine tQ ?_ | refine tX ?_ | refine tXs ?_ | refine tK ?_ | refine tKa ?_ | refine tLk ?_ | refine tUp ?_ | refine tA ?_ | refine tA0 ?_ | refine tSt ?_ | refine tLU ?_ | refine tXw ?_ | refine tLe ?_ | refine tSe ?_ | refine tM ?_ | refine tN ?_ | refine tV ?_ | refine tW ?_ | fail)
    · rw [if_pos h1]; exact ⟨rfl, rfl⟩
    · rw [if_neg (by rw [h1]; simp)]; exact ⟨rfl, rfl⟩
    · exact Bool.noConfusion ((decide_eq_true hj0).symm.trans hb)
end Go.Proofs.Ytceccgnpkelpkaa
