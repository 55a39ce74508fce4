/- A part of a proof: functions of the program, walked over the abstract machine. -/
import Derived.Test.YtceccgnpkelpkaaSpan2
set_option linter.unusedVariables false
set_option linter.unusedSimpArgs false
namespace Go.Proofs.Ytceccgnpkelpkaa
open Go Go.Am Go.Proofs
attribute [local irreducible] W WL DL WO RoundEnd
set_option maxRecDepth 10000
set_option maxHeartbeats 4000000
theorem cloneH (l : List Half) (hl : l.length < 2 ^ 40) : Comp Try.prog 80 [lst Half.row l] (lst Half.row l) := by
  refine Spec.body (C := cx [(5, false)] 8) fits (fn := Try.f80) Try.func80 rfl (by decide) (by decide) (gI ?_)
  repeat' (first | ((first | refine runC ?_ | refine runC0 ?_ | refine runO ?_ | refine runR ?_); (conv => whnf); first | (refine ⟨fun hb => ?_, fun hb => ?_⟩ <;> try exact noWay) | refine oA ?_ | refine oB ?_ | refine oC ?_ | refine oR ?_ | refine fR ?_ | refine fRk ?_ | refine oF ?_) | refine fun k => lN fits (fun h0 => oW ?_ _) (oW ?_ _) | refine fun k => lA fits (rows := []) (oW ?_ _) (hsm := by simp only [most, List.length_map, List.length_nil]; omega) | refine sSA ?_ | refine sL ?_ | refine sQ ?_ | refine sX ?_ | refine sXa ?_ | refine sXs ?_ | refine sK ?_ | refine sKa ?_ | refine sLk ?_ | refine sUp ?_ | refine sDel ?_ | refine sSt ?_ | refine sLU ?_ | refine sXw ?_ | refine sLe ?_ | refine sSe ?_ | refine sM ?_ | refine sA ?_ | refine sA0 ?_ | refine sA1 ?_ | refine sMk ?_ | refine sV ?_ | refine sW ?_ | fail)
  · exact ⟨by simp only [lst, h0], rfl⟩
  · exact ⟨rfl, rfl⟩
theorem stepsCopy (l : List Stp) (hl : l.length < 2 ^ 40) (hok : ∀ s ∈ l, s.ok) : Comp Try.prog 61 [lst Stp.row l] (lst Stp.row l) := by
  refine Spec.body (C := cx [(3, false)] 39) fits (fn := Try.f61) Try.func61 rfl (by decide) (by decide) (gI ?_)
  repeat' (first | ((first | refine runC ?_ | refine runC0 ?_ | refine runO ?_ | refine runR ?_); (conv => whnf); first | (refine ⟨fun hb => ?_, fun hb => ?_⟩ <;> try exact noWay) | refine oA ?_ | refine oB ?_ | refine oC ?_ | refine oR ?_ | refine fR ?_ | refine fRk ?_ | refine oF ?_) | refine sSA ?_ | refine sL ?_ | refine sQ ?_ | refine sX ?_ | refine sXa ?_ | refine sXs ?_ | refine sK ?_ | refine sKa ?_ | refine sLk ?_ | refine sUp ?_ | refine sDel ?_ | refine sSt ?_ | refine sLU ?_ | refine sXw ?_ | refine sLe ?_ | refine sSe ?_ | refine sM ?_ | refine sA ?_ | refine sA0 ?_ | refine sA1 ?_ | refine sMk ?_ | refine sV ?_ | refine sW ?_ | refine tSA ?_ | refine tL ?_ | refine tQ ?_ | refine tX ?_ | refine tXs ?_ | refine tK ?_ | refine tKa ?_ | refine tLk ?_ | refine tUp ?_ | refine tA ?_ | refine tA0 ?_ | refine tSt ?_ | refine tLU ?_ | refine tXw ?_ | refine tLe ?_ | refine tSe ?_ | refine tM ?_ | refine tN ?_ | refine tV ?_ | refine tW ?_ | fail)
  refine wLoop [0, 3, 9, 10, 11] 1 (l.length + 1) ?_
  refine (fun key => key l [] _ rfl rfl : (∀ (rest done : List Stp) (j : Int), l = done ++ rest → j = done.length →
    WR2 _ _ _ _ _ (rest.length + 1) [(0, lst Stp.row l), (3, .one (.arr 0 0 (done.map Stp.row).length)), (9, lst Stp.row l), (10, int .i64 (l.map Stp.row).length), (11, int .i64 j)] [.arr 0 false 3 (done.map Stp.row)]) → _) ?_
  intro rest
  induction rest with
  | nil =>
    intro done j h1 hj
    have hlen : l.length = done.length := by subst h1; simp
    refine wR (gI ?_)
    repeat' (first | ((first | refine runC ?_ | refine runC0 ?_ | refine runO ?_ | refine runR ?_); (conv => whnf); first | (refine ⟨fun hb => ?_, fun hb => ?_⟩ <;> try exact noWay) | refine oA ?_ | refine oB ?_ | refine oC ?_ | refine oR ?_ | refine fR ?_ | refine fRk ?_ | refine oF ?_) | refine sSA ?_ | refine sL ?_ | refine sQ ?_ | refine sX ?_ | refine sXa ?_ | refine sXs ?_ | refine sK ?_ | refine sKa ?_ | refine sLk ?_ | refine sUp ?_ | refine sDel ?_ | refine sSt ?_ | refine sLU ?_ | refine sXw ?_ | refine sLe ?_ | refine sSe ?_ | refine sM ?_ | refine sA ?_ | refine sA0 ?_ | refine sA1 ?_ | refine sMk ?_ | refine sV ?_ | refine sW ?_ | refine tSA ?_ | refine tL ?_ | refine tQ ?_ | refine tX ?_ | refine tXs ?_ | refine tK ?_ | refine tKa ?_ | refine tLk ?_ | refine tUp ?_ | refine tA ?_ | refine tA0 ?_ | refine tSt ?_ | refine tLU ?_ | refine tXw ?_ | refine tLe ?_ | refine tSe ?_ | refine tM ?_ | refine tN ?_ | refine tV ?_ | refine tW ?_ | fail)
    refine ⟨?_, rfl⟩
    have : l = done := by simpa using h1
    subst this; rfl
  | cons x rest ih =>
    intro done j h1 hj
    have hlen : l.length = done.length + (rest.length + 1) := by rw [h1]; simp
    have hx := hok x (by rw [h1]; simp)
    obtain ⟨cs, ⟨ak, ad⟩⟩ := x
    have hc1 : cs.length < 2 ^ 40 := hx.1
    refine wR (gI ?_)
    repeat' (first | ((first | refine runC ?_ | refine runC0 ?_ | refine runO ?_ | refine runR ?_); (conv => whnf); first | (refine ⟨fun hb => ?_, fun hb => ?_⟩ <;> try exact noWay) | refine oA ?_ | refine oB ?_ | refine oC ?_ | refine oR ?_ | refine fR ?_ | refine fRk ?_ | refine oF ?_) | refine sSA ?_ | refine sL ?_ | refine sQ ?_ | refine sX ?_ | refine sXa ?_ | refine sXs ?_ | refine sK ?_ | refine sKa ?_ | refine sLk ?_ | refine sUp ?_ | refine sDel ?_ | refine sSt ?_ | refine sLU ?_ | refine sXw ?_ | refine sLe ?_ | refine sSe ?_ | refine sM ?_ | refine sA ?_ | refine sA0 ?_ | refine sA1 ?_ | refine sMk ?_ | refine sV ?_ | refine sW ?_ | refine tSA ?_ | refine tL ?_ | refine tQ ?_ | refine tX ?_ | refine tXs ?_ | refine tK ?_ | refine tKa ?_ | refine tLk ?_ | refine tUp ?_ | refine tA ?_ | refine tA0 ?_ | refine tSt ?_ | refine tLU ?_ | refine tXw ?_ | refine tLe ?_ | refine tSe ?_ | refine tM ?_ | refine tN ?_ | refine tV ?_ | refine tW ?_ | fail)
    refine gA 2 0 false 1 ?_
    refine wLoop [0, 3, 6, 9, 10, 11, 19, 20, 21] 4 (cs.length + 1) ?_
    refine (fun key => key cs [] _ rfl rfl : (∀ (r2 d2 : List (List Half)) (i : Int), cs = d2 ++ r2 → i = d2.length →
      WR2 _ _ _ _ _ (r2.length + 1) [(0, lst Stp.row l), (3, .one (.arr 0 0 (done.map Stp.row).length)), (6, .one (.ptr 2 0)), (9, lst Stp.row l), (10, int .i64 (l.map Stp.row).length), (11, int .i64 j), (19, lst crow cs), (20, int .i64 (cs.map crow).length), (21, int .i64 i)]
        [.arr 0 false 3 (done.map Stp.row), .var [.d (.list (cs.map crow)), .d (.sc (.int .i64 ak)), .d (.sc (.int .i64 ad))], .var [.arr 3 0 (d2.map crow).length, .d (.sc (.int .i64 ak)), .d (.sc (.int .i64 ad))], .arr 0 false 1 (d2.map crow)]) → _) ?_
    intro r2
    induction r2 with
    | nil =>
      intro d2 i h2 hi
      have hlen2 : cs.length = d2.length := by rw [h2]; simp
      have : d2 = cs := by simpa using h2.symm
      subst this
      refine wR (gI ?_)
      repeat' (first | ((first | refine runC ?_ | refine runC0 ?_ | refine runO ?_ | refine runR ?_); (conv => whnf); first | (refine ⟨fun hb => ?_, fun hb => ?_⟩ <;> try exact noWay) | refine oA ?_ | refine oB ?_ | refine oC ?_ | refine oR ?_ | refine fR ?_ | refine fRk ?_ | refine oF ?_) | refine sSA ?_ | refine sL ?_ | refine sQ ?_ | refine sX ?_ | refine sXa ?_ | refine sXs ?_ | refine sK ?_ | refine sKa ?_ | refine sLk ?_ | refine sUp ?_ | refine sDel ?_ | refine sSt ?_ | refine sLU ?_ | refine sXw ?_ | refine sLe ?_ | refine sSe ?_ | refine sM ?_ | refine sA ?_ | refine sA0 ?_ | refine sA1 ?_ | refine sMk ?_ | refine sV ?_ | refine sW ?_ | refine tSA ?_ | refine tL ?_ | refine tQ ?_ | refine tX ?_ | refine tXs ?_ | refine tK ?_ | refine tKa ?_ | refine tLk ?_ | refine tUp ?_ | refine tA ?_ | refine tA0 ?_ | refine tSt ?_ | refine tLU ?_ | refine tXw ?_ | refine tLe ?_ | refine tSe ?_ | refine tM ?_ | refine tN ?_ | refine tV ?_ | refine tW ?_ | fail)
      have g := ih (done ++ [⟨d2, ⟨ak, ad⟩⟩]) (IntKind.wrap .i64 (j + 1)) (by rw [h1]; simp) (by rw [wrap_ok (by omega) (by omega)]; simp [hj])
      rw [List.map_append] at g
      exact rE g
    | cons c r2 ih2 =>
      intro d2 i h2 hi
      have hlen2 : cs.length = d2.length + (r2.length + 1) := by rw [h2]; simp
      have hc := cloneH c (hx.2 c (by simp [h2]))
      refine wR (gI ?_)
      repeat' (first | ((first | refine runC ?_ | refine runC0 ?_ | refine runO ?_ | refine runR ?_); (conv => whnf); first | (refine ⟨fun hb => ?_, fun hb => ?_⟩ <;> try exact noWay) | refine oA ?_ | refine oB ?_ | refine oC ?_ | refine oR ?_ | refine fR ?_ | refine fRk ?_ | refine oF ?_) | refine sC (hc) ?_ | refine sSA ?_ | refine sL ?_ | refine sQ ?_ | refine sX ?_ | refine sXa ?_ | refine sXs ?_ | refine sK ?_ | refine sKa ?_ | refine sLk ?_ | refine sUp ?_ | refine sDel ?_ | refine sSt ?_ | refine sLU ?_ | refine sXw ?_ | refine sLe ?_ | refine sSe ?_ | refine sM ?_ | refine sA ?_ | refine sA0 ?_ | refine sA1 ?_ | refine sMk ?_ | refine sV ?_ | refine sW ?_ | refine tC (hc) ?_ | refine tSA ?_ | refine tL ?_ | refine tQ ?_ | refine tX ?_ | refine tXs ?_ | refine tK ?_ | refine tKa ?_ | refine tLk ?_ | refine tUp ?_ | refine tA ?_ | refine tA0 ?_ | refine tSt ?_ | refine tLU ?_ | refine tXw ?_ | refine tLe ?_ | refine tSe ?_ | refine tM ?_ | refine tN ?_ | refine tV ?_ | refine tW ?_ | fail)
      have g := ih2 (d2 ++ [c]) (IntKind.wrap .i64 (i + 1)) (by rw [h2]; simp) (by rw [wrap_ok (by omega) (by omega)]; simp [hi])
      rw [List.map_append] at g
      exact rE g
end Go.Proofs.Ytceccgnpkelpkaa
