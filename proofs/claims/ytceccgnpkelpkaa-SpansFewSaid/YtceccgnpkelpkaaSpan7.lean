/- A part of a proof: functions of the program, walked over the abstract machine. -/
import Derived.Test.YtceccgnpkelpkaaSpan6
set_option linter.unusedVariables false
set_option linter.unusedSimpArgs false
namespace Go.Proofs.Ytceccgnpkelpkaa
open Go Go.Am Go.Proofs
attribute [local irreducible] W WL DL WO RoundEnd
set_option maxRecDepth 10000
set_option maxHeartbeats 4000000
theorem sameClausesR (a b : List (List Half)) (hla : a.length < 2 ^ 60) (hc : ∀ c ∈ a, c.length < 2 ^ 60) : Comp Try.prog 44 [lst crow a, lst crow b] (bool (pw (pw Half.eqb) a b)) := by
  refine Spec.body (C := cx [] 53) fits (fn := Try.f44) Try.func44 rfl (by decide) (by decide) (gI ?_)
  repeat' (first | ((first | refine runC ?_ | refine runC0 ?_ | refine runO ?_ | refine runR ?_); (conv => whnf); first | (refine ⟨fun hb => ?_, fun hb => ?_⟩ <;> try exact noWay) | refine oA ?_ | refine oB ?_ | refine oC ?_ | refine oR ?_ | refine fR ?_ | refine fRk ?_ | refine oF ?_) | refine sSA ?_ | refine sL ?_ | refine sQ ?_ | refine sX ?_ | refine sXa ?_ | refine sXs ?_ | refine sK ?_ | refine sKa ?_ | refine sLk ?_ | refine sUp ?_ | refine sDel ?_ | refine sSt ?_ | refine sLU ?_ | refine sXw ?_ | refine sLe ?_ | refine sSe ?_ | refine sM ?_ | refine sA ?_ | refine sA0 ?_ | refine sA1 ?_ | refine sMk ?_ | refine sV ?_ | refine sW ?_ | refine tSA ?_ | refine tL ?_ | refine tQ ?_ | refine tX ?_ | refine tXs ?_ | refine tK ?_ | refine tKa ?_ | refine tLk ?_ | refine tUp ?_ | refine tA ?_ | refine tA0 ?_ | refine tSt ?_ | refine tLU ?_ | refine tXw ?_ | refine tLe ?_ | refine tSe ?_ | refine tM ?_ | refine tN ?_ | refine tV ?_ | refine tW ?_ | fail)
  · refine ⟨?_, rfl⟩
    have hne : a.length ≠ b.length := by simp at hb; omega
    rw [pw_len hne]; rfl
  have hab : a.length = b.length := by simp at hb; omega
  refine wLoop [0, 1, 5] 0 (a.length + 1) ?_
  refine (fun key => key a b [] [] _ rfl rfl rfl rfl hab rfl : (∀ (r1 r2 d1 d2 : List (List Half)) (j : Int), a = d1 ++ r1 → b = d2 ++ r2 → j = d1.length → j = d2.length → r1.length = r2.length → pw (pw Half.eqb) a b = pw (pw Half.eqb) r1 r2 →
    WR2 _ _ _ _ _ (r1.length + 1) [(0, lst crow a), (1, lst crow b), (5, int .i64 j)] []) → _) ?_
  intro r1
  induction r1 with
  | nil =>
    intro r2 d1 d2 j g1 g2 hj hj2 hr hs
    have hlen : a.length = d1.length := by rw [g1]; simp
    have : r2 = [] := List.length_eq_zero_iff.1 (by simpa using hr.symm)
    subst this
    refine wR (gI ?_)
    repeat' (first | ((first | refine runC ?_ | refine runC0 ?_ | refine runO ?_ | refine runR ?_); (conv => whnf); first | (refine ⟨fun hb => ?_, fun hb => ?_⟩ <;> try exact noWay) | refine oA ?_ | refine oB ?_ | refine oC ?_ | refine oR ?_ | refine fR ?_ | refine fRk ?_ | refine oF ?_) | refine sSA ?_ | refine sL ?_ | refine sQ ?_ | refine sX ?_ | refine sXa ?_ | refine sXs ?_ | refine sK ?_ | refine sKa ?_ | refine sLk ?_ | refine sUp ?_ | refine sDel ?_ | refine sSt ?_ | refine sLU ?_ | refine sXw ?_ | refine sLe ?_ | refine sSe ?_ | refine sM ?_ | refine sA ?_ | refine sA0 ?_ | refine sA1 ?_ | refine sMk ?_ | refine sV ?_ | refine sW ?_ | refine tSA ?_ | refine tL ?_ | refine tQ ?_ | refine tX ?_ | refine tXs ?_ | refine tK ?_ | refine tKa ?_ | refine tLk ?_ | refine tUp ?_ | refine tA ?_ | refine tA0 ?_ | refine tSt ?_ | refine tLU ?_ | refine tXw ?_ | refine tLe ?_ | refine tSe ?_ | refine tM ?_ | refine tN ?_ | refine tV ?_ | refine tW ?_ | fail)
    exact ⟨by rw [hs]; rfl, rfl⟩
  | cons x r1 ih =>
    intro r2 d1 d2 j g1 g2 hj hj2 hr hs
    rcases r2 with _ | ⟨y, r2⟩
    · simp at hr
    have hlen : a.length = d1.length + (r1.length + 1) := by rw [g1]; simp
    have hxl := hc x (by rw [g1]; simp)
    refine wR (gI ?_)
    repeat' (first | ((first | refine runC ?_ | refine runC0 ?_ | refine runO ?_ | refine runR ?_); (conv => whnf); first | (refine ⟨fun hb => ?_, fun hb => ?_⟩ <;> try exact noWay) | refine oA ?_ | refine oB ?_ | refine oC ?_ | refine oR ?_ | refine fR ?_ | refine fRk ?_ | refine oF ?_) | refine sSA ?_ | refine sL ?_ | refine sQ ?_ | refine sX ?_ | refine sXa ?_ | refine sXs ?_ | refine sK ?_ | refine sKa ?_ | refine sLk ?_ | refine sUp ?_ | refine sDel ?_ | refine sSt ?_ | refine sLU ?_ | refine sXw ?_ | refine sLe ?_ | refine sSe ?_ | refine sM ?_ | refine sA ?_ | refine sA0 ?_ | refine sA1 ?_ | refine sMk ?_ | refine sV ?_ | refine sW ?_ | refine tSA ?_ | refine tL ?_ | refine tQ ?_ | refine tX ?_ | refine tXs ?_ | refine tK ?_ | refine tKa ?_ | refine tLk ?_ | refine tUp ?_ | refine tA ?_ | refine tA0 ?_ | refine tSt ?_ | refine tLU ?_ | refine tXw ?_ | refine tLe ?_ | refine tSe ?_ | refine tM ?_ | refine tN ?_ | refine tV ?_ | refine tW ?_ | fail)
    · refine ⟨?_, rfl⟩
      have hne : x.length ≠ y.length := by simp at hb; omega
      rw [hs, pw, pw_len hne]; rfl
    have hxy : x.length = y.length := by simp at hb; omega
    have gx := at_mid (f := crow) g1 hj
    have gy := at_mid (f := crow) g2 hj2
    refine wLoop [0, 1, 5, 6] 0 (x.length + 1) ?_
    refine (fun key => key x y [] [] _ rfl rfl rfl rfl hxy rfl : (∀ (s1 s2 e1 e2 : List Half) (i : Int), x = e1 ++ s1 → y = e2 ++ s2 → i = e1.length → i = e2.length → s1.length = s2.length → pw Half.eqb x y = pw Half.eqb s1 s2 →
      WR2 _ _ _ _ _ (s1.length + 1) [(0, lst crow a), (1, lst crow b), (5, int .i64 j), (6, int .i64 i)] []) → _) ?_
    intro s1
    induction s1 with
    | nil =>
      intro s2 e1 e2 i k1 k2 hi hi2 hsr hss
      have hlen2 : x.length = e1.length := by rw [k1]; simp
      have : s2 = [] := List.length_eq_zero_iff.1 (by simpa using hsr.symm)
      subst this
      refine wR (gI ?_)
      repeat' (first | ((first | refine runC ?_ | refine runC0 ?_ | refine runO ?_ | refine runR ?_); (conv => whnf); first | (refine ⟨fun hb => ?_, fun hb => ?_⟩ <;> try exact noWay) | refine oA ?_ | refine oB ?_ | refine oC ?_ | refine oR ?_ | refine fR ?_ | refine fRk ?_ | refine oF ?_) | refine sSA ?_ | refine sL ?_ | refine sQ ?_ | refine sX ?_ | refine sXa ?_ | refine sXs ?_ | refine sK ?_ | refine sKa ?_ | refine sLk ?_ | refine sUp ?_ | refine sDel ?_ | refine sSt ?_ | refine sLU ?_ | refine sXw ?_ | refine sLe ?_ | refine sSe ?_ | refine sM ?_ | refine sA ?_ | refine sA0 ?_ | refine sA1 ?_ | refine sMk ?_ | refine sV ?_ | refine sW ?_ | refine tSA ?_ | refine tL ?_ | refine tQ ?_ | refine tX ?_ | refine tXs ?_ | refine tK ?_ | refine tKa ?_ | refine tLk ?_ | refine tUp ?_ | refine tA ?_ | refine tA0 ?_ | refine tSt ?_ | refine tLU ?_ | refine tXw ?_ | refine tLe ?_ | refine tSe ?_ | refine tM ?_ | refine tN ?_ | refine tV ?_ | refine tW ?_ | fail)
      refine rE (ih r2 (d1 ++ [x]) (d2 ++ [y]) _ ?_ ?_ ?_ ?_ ?_ ?_)
      · simp [g1]
      · simp [g2]
      · rw [wrap_ok (by omega) (by omega)]; simp [hj]
      · rw [wrap_ok (by omega) (by omega)]; simp [hj2]
      · simpa using hr
      · rw [hs, pw, hss]; rfl
    | cons u s1 ih2 =>
      intro s2 e1 e2 i k1 k2 hi hi2 hsr hss
      rcases s2 with _ | ⟨v, s2⟩
      · simp at hsr
      have hlen2 : x.length = e1.length + (s1.length + 1) := by rw [k1]; simp
      have huv : Half.eqb u v = (u.arg == v.arg && (u.op == v.op && (u.high == v.high && (u.mask == v.mask && (u.value == v.value && true))))) := rfl
      obtain ⟨xa, xo, xh, xm, xv⟩ := u
      obtain ⟨ya, yo, yh, ym, yv⟩ := v
      refine wR (gI ?_)
      repeat' (first | ((first | refine runC ?_ | refine runC0 ?_ | refine runO ?_ | refine runR ?_); (conv => whnf); first | (refine ⟨fun hb => ?_, fun hb => ?_⟩ <;> try exact noWay) | refine oA ?_ | refine oB ?_ | refine oC ?_ | refine oR ?_ | refine fR ?_ | refine fRk ?_ | refine oF ?_) | refine sSA ?_ | refine sL ?_ | refine sQ ?_ | refine sX ?_ | refine sXa ?_ | refine sXs ?_ | refine sK ?_ | refine sKa ?_ | refine sLk ?_ | refine sUp ?_ | refine sDel ?_ | refine sSt ?_ | refine sLU ?_ | refine sXw ?_ | refine sLe ?_ | refine sSe ?_ | refine sM ?_ | refine sA ?_ | refine sA0 ?_ | refine sA1 ?_ | refine sMk ?_ | refine sV ?_ | refine sW ?_ | refine tSA ?_ | refine tL ?_ | refine tQ ?_ | refine tX ?_ | refine tXs ?_ | refine tK ?_ | refine tKa ?_ | refine tLk ?_ | refine tUp ?_ | refine tA ?_ | refine tA0 ?_ | refine tSt ?_ | refine tLU ?_ | refine tXw ?_ | refine tLe ?_ | refine tSe ?_ | refine tM ?_ | refine tN ?_ | refine tV ?_ | refine tW ?_ | fail)
      · have h1 : Half.eqb ⟨xa, xo, xh, xm, xv⟩ ⟨ya, yo, yh, ym, yv⟩ = false := by
          rw [huv]
          have h : (!(xa == ya && (xo == yo && (xh == yh && (xm == ym && (xv == yv && true)))))) = true := hb
          rwa [Bool.not_eq_true'] at h
        exact ⟨by rw [hs, pw, hss, pw, h1]; rfl, rfl⟩
      · have h1 : Half.eqb ⟨xa, xo, xh, xm, xv⟩ ⟨ya, yo, yh, ym, yv⟩ = true := by
          rw [huv]
          have h : (!(xa == ya && (xo == yo && (xh == yh && (xm == ym && (xv == yv && true)))))) = false := hb
          rwa [Bool.not_eq_false'] at h
        refine rE (ih2 s2 (e1 ++ [⟨xa, xo, xh, xm, xv⟩]) (e2 ++ [⟨ya, yo, yh, ym, yv⟩]) _ ?_ ?_ ?_ ?_ ?_ ?_)
        · simp [k1]
        · simp [k2]
        · rw [wrap_ok (by omega) (by omega)]; simp [hi]
        · rw [wrap_ok (by omega) (by omega)]; simp [hi2]
        · simpa using hsr
        · rw [hss, pw, h1]; rfl
end Go.Proofs.Ytceccgnpkelpkaa
