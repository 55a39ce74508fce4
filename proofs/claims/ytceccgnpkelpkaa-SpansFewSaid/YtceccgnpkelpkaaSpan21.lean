/- A part of a proof: functions of the program, walked over the abstract machine. -/
import Derived.Test.YtceccgnpkelpkaaSpan20
import Derived.Test.YtceccgnpkelpkaaSpan13
set_option linter.unusedVariables false
set_option linter.unusedSimpArgs false
namespace Go.Proofs.Ytceccgnpkelpkaa
open Go Go.Am Go.Proofs
attribute [local irreducible] W WL DL WO RoundEnd
set_option maxRecDepth 10000
set_option maxHeartbeats 4000000
def u32row (n : Int) : List D := [.sc (.int .u32 n)]
theorem few_bad (l : List Int) (d o : Act) (at_ : Int) (hb : 30 < l.length ∨ l.length < 1 ∨ at_ < 0 ∨ d = o) : Comp Try.prog 6 [lst u32row l, .agg (d.row.map .d), .agg (o.row.map .d), int .i64 at_] (bool true) := by
  have c0 := alive23
  obtain ⟨dk, dd⟩ := d
  obtain ⟨ok, od⟩ := o
  by_cases h1 : 30 < l.length
  · have b1 : decide (((l.map u32row).length : Int) > 30) = true := decide_eq_true (by rw [List.length_map]; omega)
    refine Spec.body (C := cx [] 159) fits (fn := Try.f6) Try.func6 rfl (by decide) (by decide) (gI ?_)
    repeat' (first | ((first | refine runC ?_ | refine runC0 ?_ | refine runO ?_ | refine runR ?_); (conv => whnf); first | (refine ⟨fun hb => ?_, fun hb => ?_⟩ <;> try exact noWay) | refine oA ?_ | refine oB ?_ | refine oC ?_ | refine oR ?_ | refine fR ?_ | refine fRk ?_ | refine oF ?_) | refine sC (c0) ?_ | refine sSA ?_ | refine sL ?_ | refine sQ ?_ | refine sX ?_ | refine sXa ?_ | refine sXs ?_ | refine sK ?_ | refine sKa ?_ | refine sLk ?_ | refine sUp ?_ | refine sDel ?_ | refine sSt ?_ | refine sLU ?_ | refine sXw ?_ | refine sLe ?_ | refine sSe ?_ | refine sM ?_ | refine sA ?_ | refine sA0 ?_ | refine sA1 ?_ | refine sMk ?_ | refine sV ?_ | refine sW ?_ | refine tC (c0) ?_ | refine tSA ?_ | refine tL ?_ | refine tQ ?_ | refine tX ?_ | refine tXs ?_ | refine tK ?_ | refine tKa ?_ | refine tLk ?_ | refine tUp ?_ | refine tA ?_ | refine tA0 ?_ | refine tSt ?_ | refine tLU ?_ | refine tXw ?_ | refine tLe ?_ | refine tSe ?_ | refine tM ?_ | refine tN ?_ | refine tV ?_ | refine tW ?_ | fail)
    exact ⟨rfl, rfl⟩
  have b1 : decide (((l.map u32row).length : Int) > 30) = false := decide_eq_false (by rw [List.length_map]; omega)
  by_cases h2 : l.length < 1
  · have b2 : decide (((l.map u32row).length : Int) < 1) = true := decide_eq_true (by rw [List.length_map]; omega)
    refine Spec.body (C := cx [] 159) fits (fn := Try.f6) Try.func6 rfl (by decide) (by decide) (gI ?_)
    repeat' (first | ((first | refine runC ?_ | refine runC0 ?_ | refine runO ?_ | refine runR ?_); (conv => whnf); first | (refine ⟨fun hb => ?_, fun hb => ?_⟩ <;> try exact noWay) | refine oA ?_ | refine oB ?_ | refine oC ?_ | refine oR ?_ | refine fR ?_ | refine fRk ?_ | refine oF ?_) | refine sC (c0) ?_ | refine sSA ?_ | refine sL ?_ | refine sQ ?_ | refine sX ?_ | refine sXa ?_ | refine sXs ?_ | refine sK ?_ | refine sKa ?_ | refine sLk ?_ | refine sUp ?_ | refine sDel ?_ | refine sSt ?_ | refine sLU ?_ | refine sXw ?_ | refine sLe ?_ | refine sSe ?_ | refine sM ?_ | refine sA ?_ | refine sA0 ?_ | refine sA1 ?_ | refine sMk ?_ | refine sV ?_ | refine sW ?_ | refine tC (c0) ?_ | refine tSA ?_ | refine tL ?_ | refine tQ ?_ | refine tX ?_ | refine tXs ?_ | refine tK ?_ | refine tKa ?_ | refine tLk ?_ | refine tUp ?_ | refine tA ?_ | refine tA0 ?_ | refine tSt ?_ | refine tLU ?_ | refine tXw ?_ | refine tLe ?_ | refine tSe ?_ | refine tM ?_ | refine tN ?_ | refine tV ?_ | refine tW ?_ | fail)
    exact ⟨rfl, rfl⟩
  have b2 : decide (((l.map u32row).length : Int) < 1) = false := decide_eq_false (by rw [List.length_map]; omega)
  by_cases h3 : at_ < 0
  · have b3 : decide (at_ < 0) = true := decide_eq_true h3
    refine Spec.body (C := cx [] 159) fits (fn := Try.f6) Try.func6 rfl (by decide) (by decide) (gI ?_)
    repeat' (first | ((first | refine runC ?_ | refine runC0 ?_ | refine runO ?_ | refine runR ?_); (conv => whnf); first | (refine ⟨fun hb => ?_, fun hb => ?_⟩ <;> try exact noWay) | refine oA ?_ | refine oB ?_ | refine oC ?_ | refine oR ?_ | refine fR ?_ | refine fRk ?_ | refine oF ?_) | refine sC (c0) ?_ | refine sSA ?_ | refine sL ?_ | refine sQ ?_ | refine sX ?_ | refine sXa ?_ | refine sXs ?_ | refine sK ?_ | refine sKa ?_ | refine sLk ?_ | refine sUp ?_ | refine sDel ?_ | refine sSt ?_ | refine sLU ?_ | refine sXw ?_ | refine sLe ?_ | refine sSe ?_ | refine sM ?_ | refine sA ?_ | refine sA0 ?_ | refine sA1 ?_ | refine sMk ?_ | refine sV ?_ | refine sW ?_ | refine tC (c0) ?_ | refine tSA ?_ | refine tL ?_ | refine tQ ?_ | refine tX ?_ | refine tXs ?_ | refine tK ?_ | refine tKa ?_ | refine tLk ?_ | refine tUp ?_ | refine tA ?_ | refine tA0 ?_ | refine tSt ?_ | refine tLU ?_ | refine tXw ?_ | refine tLe ?_ | refine tSe ?_ | refine tM ?_ | refine tN ?_ | refine tV ?_ | refine tW ?_ | fail)
    exact ⟨rfl, rfl⟩
  have b3 : decide (at_ < 0) = false := decide_eq_false h3
  have b4 : (dk == ok && (dd == od && true)) = true := by
    have : (⟨dk, dd⟩ : Act) = ⟨ok, od⟩ := by
      rcases hb with h | h | h | h
      · exact absurd h h1
      · exact absurd h h2
      · exact absurd h h3
      · exact h
    simpa using this
  refine Spec.body (C := cx [] 159) fits (fn := Try.f6) Try.func6 rfl (by decide) (by decide) (gI ?_)
  repeat' (first | ((first | refine runC ?_ | refine runC0 ?_ | refine runO ?_ | refine runR ?_); (conv => whnf); first | (refine ⟨fun hb => ?_, fun hb => ?_⟩ <;> try exact noWay) | refine oA ?_ | refine oB ?_ | refine oC ?_ | refine oR ?_ | refine fR ?_ | refine fRk ?_ | refine oF ?_) | refine sC (c0) ?_ | refine sSA ?_ | refine sL ?_ | refine sQ ?_ | refine sX ?_ | refine sXa ?_ | refine sXs ?_ | refine sK ?_ | refine sKa ?_ | refine sLk ?_ | refine sUp ?_ | refine sDel ?_ | refine sSt ?_ | refine sLU ?_ | refine sXw ?_ | refine sLe ?_ | refine sSe ?_ | refine sM ?_ | refine sA ?_ | refine sA0 ?_ | refine sA1 ?_ | refine sMk ?_ | refine sV ?_ | refine sW ?_ | refine tC (c0) ?_ | refine tSA ?_ | refine tL ?_ | refine tQ ?_ | refine tX ?_ | refine tXs ?_ | refine tK ?_ | refine tKa ?_ | refine tLk ?_ | refine tUp ?_ | refine tA ?_ | refine tA0 ?_ | refine tSt ?_ | refine tLU ?_ | refine tXw ?_ | refine tLe ?_ | refine tSe ?_ | refine tM ?_ | refine tN ?_ | refine tV ?_ | refine tW ?_ | fail)
  exact ⟨rfl, rfl⟩
theorem oneC_fine (d : Act) (n : Int) (h : 0 ≤ n ∧ n < 4294967296) : (oneC d n).fine := by
  refine ⟨⟨by simp [oneC], fun s hs => ?_⟩, h⟩
  have : s = ⟨[[]], d⟩ := by simpa [oneC] using hs
  subst this
  exact ⟨by simp, by simp⟩
theorem few23 (l : List Int) (d o : Act) (at_ : Int) (h1 : ¬ 30 < l.length) (h2 : ¬ l.length < 1) (h3 : ¬ at_ < 0) (h4 : d ≠ o) (hl : ∀ n ∈ l, 0 ≤ n ∧ n < 4294967296) : Comp Try.prog 6 [lst u32row l, .agg (d.row.map .d), .agg (o.row.map .d), int .i64 at_] (bool true) := by
  have c0 := alive23
  have b1 : decide (((l.map u32row).length : Int) > 30) = false := decide_eq_false (by rw [List.length_map]; omega)
  have b2 : decide (((l.map u32row).length : Int) < 1) = false := decide_eq_false (by rw [List.length_map]; omega)
  have b3 : decide (at_ < 0) = false := decide_eq_false h3
  have hcut := ofF_cut d o h4
  have hone := ofF_one d l hl
  obtain ⟨dk, dd⟩ := d
  obtain ⟨ok, od⟩ := o
  have b4 : (dk == ok && (dd == od && true)) = false := by
    rw [Bool.eq_false_iff]
    intro h
    exact h4 (by simpa using h)
  refine Spec.body (C := cx [(10, true)] 159) fits (fn := Try.f6) Try.func6 rfl (by decide) (by decide) (gI ?_)
  repeat' (first | ((first | refine runC ?_ | refine runC0 ?_ | refine runO ?_ | refine runR ?_); (conv => whnf); first | (refine ⟨fun hb => ?_, fun hb => ?_⟩ <;> try exact noWay) | refine oA ?_ | refine oB ?_ | refine oC ?_ | refine oR ?_ | refine fR ?_ | refine fRk ?_ | refine oF ?_) | refine sC (c0) ?_ | refine sSA ?_ | refine sL ?_ | refine sQ ?_ | refine sX ?_ | refine sXa ?_ | refine sXs ?_ | refine sK ?_ | refine sKa ?_ | refine sLk ?_ | refine sUp ?_ | refine sDel ?_ | refine sSt ?_ | refine sLU ?_ | refine sXw ?_ | refine sLe ?_ | refine sSe ?_ | refine sM ?_ | refine sA ?_ | refine sA0 ?_ | refine sA1 ?_ | refine sMk ?_ | refine sV ?_ | refine sW ?_ | refine tC (c0) ?_ | refine tSA ?_ | refine tL ?_ | refine tQ ?_ | refine tX ?_ | refine tXs ?_ | refine tK ?_ | refine tKa ?_ | refine tLk ?_ | refine tUp ?_ | refine tA ?_ | refine tA0 ?_ | refine tSt ?_ | refine tLU ?_ | refine tXw ?_ | refine tLe ?_ | refine tSe ?_ | refine tM ?_ | refine tN ?_ | refine tV ?_ | refine tW ?_ | fail)
  refine wLoop [0, 3, 5, 6, 10, 11] 3 (l.length + 1) ?_
  refine (fun key => key l [] _ rfl rfl .nil :
    (∀ (rest done : List Int) (j : Int), l = done ++ rest → j = done.length → done.Pairwise (· < ·) →
    WR2 _ _ _ _ _ (rest.length + 1) [(0, lst u32row l), (3, int .i64 at_), (5, .one (.ptr 0 0)), (6, .one (.ptr 1 0)), (10, .one (.arr 2 0 ((done.map (oneC ⟨dk, dd⟩)).map Chn.row).length)), (11, int .i64 j)] [.var [.d (.sc (.int .i64 dk)), .d (.sc (.int .i64 dd))], .var [.d (.sc (.int .i64 ok)), .d (.sc (.int .i64 od))], .arr 0 true 2 ((done.map (oneC ⟨dk, dd⟩)).map Chn.row)]) → _) ?_
  intro rest
  induction rest with
  | nil =>
    intro done j k1 hj hp
    have : l = done := by simpa using k1
    subst this
    clear k1
    have hfine : ∀ (e : Act) (m : List Int), (∀ n ∈ m, n ∈ l) → ∀ c ∈ m.map (oneC e), c.fine := fun e m hm c hc => by
      obtain ⟨x, hx, rfl⟩ := List.mem_map.1 hc
      exact oneC_fine e x (hl x (hm x hx))
    have c1 := ofRr 0 _ (l.map (oneC ⟨dk, dd⟩)) ⟨dk, dd⟩ rfl (by rw [List.length_map]; omega) (hfine _ l fun _ h => h)
    rw [hone hp] at c1
    have hL : (((l.map (oneC ⟨dk, dd⟩)).map Chn.row).length : Int) = l.length := by simp
    have hne : (((l.map (oneC ⟨dk, dd⟩)).map Chn.row).length : Int) ≠ 0 := by omega
    obtain ⟨R, hR⟩ : ∃ R, at_.tmod (((l.map (oneC ⟨dk, dd⟩)).map Chn.row).length : Int) = R := ⟨_, rfl⟩
    have hR0 : 0 ≤ R := by rw [← hR]; exact Int.tmod_nonneg _ (by omega)
    have hRl : R < l.length := by rw [← hR, ← hL]; exact Int.tmod_lt_of_pos _ (by omega)
    obtain ⟨pre, n, post, hpre, hlen⟩ : ∃ pre n post, l = pre ++ n :: post ∧ (pre.length : Int) = R := by
      have hlt : R.toNat < l.length := by omega
      refine ⟨l.take R.toNat, l[R.toNat], l.drop (R.toNat + 1), ?_, by rw [List.length_take]; omega⟩
      rw [List.getElem_cons_drop, List.take_append_drop]
    have gn : (l.map u32row)[(at_.tmod (((l.map (oneC ⟨dk, dd⟩)).map Chn.row).length : Int)).toNat]? = some (u32row n) := at_mid hpre (by rw [hR]; omega)
    have gk : ((l.map (oneC ⟨dk, dd⟩)).map Chn.row)[(at_.tmod (((l.map (oneC ⟨dk, dd⟩)).map Chn.row).length : Int)).toNat]? = some (Chn.row (oneC ⟨dk, dd⟩ n)) := at_mid (done := pre.map (oneC ⟨dk, dd⟩)) (rest := post.map (oneC ⟨dk, dd⟩)) (by rw [hpre]; simp) (by rw [hR, List.length_map]; omega)
    have hR0' : 0 ≤ at_.tmod (((l.map (oneC ⟨dk, dd⟩)).map Chn.row).length : Int) := by rw [hR]; exact hR0
    have hset : ((l.map (oneC ⟨dk, dd⟩)).map Chn.row).set (at_.tmod (((l.map (oneC ⟨dk, dd⟩)).map Chn.row).length : Int)).toNat (Chn.row (oneC ⟨ok, od⟩ n)) = (pre.map (oneC ⟨dk, dd⟩) ++ oneC ⟨ok, od⟩ n :: post.map (oneC ⟨dk, dd⟩)).map Chn.row := by
      rw [hR, ← hlen, hpre]
      simp [List.set_append]
    have c2 := ofRr 0 ((l.map (oneC ⟨dk, dd⟩)).map Chn.row).length (pre.map (oneC ⟨dk, dd⟩) ++ oneC ⟨ok, od⟩ n :: post.map (oneC ⟨dk, dd⟩)) ⟨dk, dd⟩ (by rw [← hset, List.length_set]) (by have := congrArg List.length hpre; simp at this ⊢; omega) (fun c hc => by
      rcases List.mem_append.1 hc with hc | hc
      · exact hfine _ pre (fun x hx => by rw [hpre]; simp [hx]) c hc
      · rcases List.mem_cons.1 hc with rfl | hc
        · exact oneC_fine _ n (hl n (by rw [hpre]; simp))
        · exact hfine _ post (fun x hx => by rw [hpre]; simp [hx]) c hc)
    have hnn := hl n (by rw [hpre]; simp)
    rw [hcut pre post n (by rw [← hpre]; exact hl) (by rw [← hpre]; exact hp), ← hset] at c2
    by_cases hz : n = 0
    · subst hz
      have e1 : stF ⟨dk, dd⟩ 0 ++ (⟨0, 0, [], ⟨ok, od⟩⟩ : Span) :: tailF ⟨dk, dd⟩ 0 = [⟨0, 0, [], ⟨ok, od⟩⟩, ⟨1, 4294967295, [], ⟨dk, dd⟩⟩] := rfl
      rw [e1] at c2
      have c3 := findR 0 [⟨0, 0, [], ⟨ok, od⟩⟩, ⟨1, 4294967295, [], ⟨dk, dd⟩⟩] (by simp)
      have e2 : ixF (Span.has 0) [⟨0, 0, [], ⟨ok, od⟩⟩, ⟨1, 4294967295, [], ⟨dk, dd⟩⟩] 0 = 0 := by simp [ixF, Span.has]
      rw [e2] at c3
      refine wR (gI ?_)
      repeat' (first | ((first | refine runC ?_ | refine runC0 ?_ | refine runO ?_ | refine runR ?_); (conv => whnf); first | (refine ⟨fun hb => ?_, fun hb => ?_⟩ <;> try exact noWay) | refine oA ?_ | refine oB ?_ | refine oC ?_ | refine oR ?_ | refine fR ?_ | refine fRk ?_ | refine oF ?_) | refine sC (c3) ?_ | refine fun k => WL.cr' [2] _ _ c1 rfl rfl rfl rfl rfl ⟨rfl, trivial⟩ rfl rfl rfl rfl (oW ?_ _) | refine fun k => WL.cr' [2] _ _ c2 rfl rfl rfl rfl rfl ⟨rfl, trivial⟩ rfl rfl rfl rfl (oW ?_ _) | refine sSA ?_ | refine sL ?_ | refine sQ ?_ | refine sX ?_ | refine sXa ?_ | refine sXs ?_ | refine sK ?_ | refine sKa ?_ | refine sLk ?_ | refine sUp ?_ | refine sDel ?_ | refine sSt ?_ | refine sLU ?_ | refine sXw ?_ | refine sLe ?_ | refine sSe ?_ | refine sM ?_ | refine sA ?_ | refine sA0 ?_ | refine sA1 ?_ | refine sMk ?_ | refine sV ?_ | refine sW ?_ | refine tC (c3) ?_ | refine tSA ?_ | refine tL ?_ | refine tQ ?_ | refine tX ?_ | refine tXs ?_ | refine tK ?_ | refine tKa ?_ | refine tLk ?_ | refine tUp ?_ | refine tA ?_ | refine tA0 ?_ | refine tSt ?_ | refine tLU ?_ | refine tXw ?_ | refine tLe ?_ | refine tSe ?_ | refine tM ?_ | refine tN ?_ | refine tV ?_ | refine tW ?_ | fail)
      all_goals exact ⟨rfl, rfl⟩
    by_cases hm : n = 4294967295
    · subst hm
      have e1 : stF ⟨dk, dd⟩ 4294967295 ++ (⟨4294967295, 4294967295, [], ⟨ok, od⟩⟩ : Span) :: tailF ⟨dk, dd⟩ 4294967295 = [⟨0, 4294967294, [], ⟨dk, dd⟩⟩, ⟨4294967295, 4294967295, [], ⟨ok, od⟩⟩] := rfl
      rw [e1] at c2
      have c3 := findR 4294967295 [⟨0, 4294967294, [], ⟨dk, dd⟩⟩, ⟨4294967295, 4294967295, [], ⟨ok, od⟩⟩] (by simp)
      have e2 : ixF (Span.has 4294967295) [⟨0, 4294967294, [], ⟨dk, dd⟩⟩, ⟨4294967295, 4294967295, [], ⟨ok, od⟩⟩] 0 = 1 := by simp [ixF, Span.has]
      rw [e2] at c3
      refine wR (gI ?_)
      repeat' (first | ((first | refine runC ?_ | refine runC0 ?_ | refine runO ?_ | refine runR ?_); (conv => whnf); first | (refine ⟨fun hb => ?_, fun hb => ?_⟩ <;> try exact noWay) | refine oA ?_ | refine oB ?_ | refine oC ?_ | refine oR ?_ | refine fR ?_ | refine fRk ?_ | refine oF ?_) | refine sC (c3) ?_ | refine fun k => WL.cr' [2] _ _ c1 rfl rfl rfl rfl rfl ⟨rfl, trivial⟩ rfl rfl rfl rfl (oW ?_ _) | refine fun k => WL.cr' [2] _ _ c2 rfl rfl rfl rfl rfl ⟨rfl, trivial⟩ rfl rfl rfl rfl (oW ?_ _) | refine sSA ?_ | refine sL ?_ | refine sQ ?_ | refine sX ?_ | refine sXa ?_ | refine sXs ?_ | refine sK ?_ | refine sKa ?_ | refine sLk ?_ | refine sUp ?_ | refine sDel ?_ | refine sSt ?_ | refine sLU ?_ | refine sXw ?_ | refine sLe ?_ | refine sSe ?_ | refine sM ?_ | refine sA ?_ | refine sA0 ?_ | refine sA1 ?_ | refine sMk ?_ | refine sV ?_ | refine sW ?_ | refine tC (c3) ?_ | refine tSA ?_ | refine tL ?_ | refine tQ ?_ | refine tX ?_ | refine tXs ?_ | refine tK ?_ | refine tKa ?_ | refine tLk ?_ | refine tUp ?_ | refine tA ?_ | refine tA0 ?_ | refine tSt ?_ | refine tLU ?_ | refine tXw ?_ | refine tLe ?_ | refine tSe ?_ | refine tM ?_ | refine tN ?_ | refine tV ?_ | refine tW ?_ | fail)
      all_goals exact ⟨rfl, rfl⟩
    have b5 : (n == 0) = false := beq_eq_false_iff_ne.2 hz
    have b6 : (n == 4294967295) = false := beq_eq_false_iff_ne.2 hm
    have e1 : stF ⟨dk, dd⟩ n ++ (⟨n, n, [], ⟨ok, od⟩⟩ : Span) :: tailF ⟨dk, dd⟩ n = [⟨0, n - 1, [], ⟨dk, dd⟩⟩, ⟨n, n, [], ⟨ok, od⟩⟩, ⟨n + 1, 4294967295, [], ⟨dk, dd⟩⟩] := by
      unfold stF tailF; rw [if_neg hz, if_neg hm]; rfl
    rw [e1] at c2
    have c3 := findR n [⟨0, n - 1, [], ⟨dk, dd⟩⟩, ⟨n, n, [], ⟨ok, od⟩⟩, ⟨n + 1, 4294967295, [], ⟨dk, dd⟩⟩] (by simp)
    have e2 : ixF (Span.has n) [⟨0, n - 1, [], ⟨dk, dd⟩⟩, ⟨n, n, [], ⟨ok, od⟩⟩, ⟨n + 1, 4294967295, [], ⟨dk, dd⟩⟩] 0 = 1 := by
      have : ¬ n ≤ n - 1 := by omega
      simp [ixF, Span.has, this]
    rw [e2] at c3
    refine wR (gI ?_)
    repeat' (first | ((first | refine runC ?_ | refine runC0 ?_ | refine runO ?_ | refine runR ?_); (conv => whnf); first | (refine ⟨fun hb => ?_, fun hb => ?_⟩ <;> try exact noWay) | refine oA ?_ | refine oB ?_ | refine oC ?_ | refine oR ?_ | refine fR ?_ | refine fRk ?_ | refine oF ?_) | refine sC (c3) ?_ | refine fun k => WL.cr' [2] _ _ c1 rfl rfl rfl rfl rfl ⟨rfl, trivial⟩ rfl rfl rfl rfl (oW ?_ _) | refine fun k => WL.cr' [2] _ _ c2 rfl rfl rfl rfl rfl ⟨rfl, trivial⟩ rfl rfl rfl rfl (oW ?_ _) | refine sSA ?_ | refine sL ?_ | refine sQ ?_ | refine sX ?_ | refine sXa ?_ | refine sXs ?_ | refine sK ?_ | refine sKa ?_ | refine sLk ?_ | refine sUp ?_ | refine sDel ?_ | refine sSt ?_ | refine sLU ?_ | refine sXw ?_ | refine sLe ?_ | refine sSe ?_ | refine sM ?_ | refine sA ?_ | refine sA0 ?_ | refine sA1 ?_ | refine sMk ?_ | refine sV ?_ | refine sW ?_ | refine tC (c3) ?_ | refine tSA ?_ | refine tL ?_ | refine tQ ?_ | refine tX ?_ | refine tXs ?_ | refine tK ?_ | refine tKa ?_ | refine tLk ?_ | refine tUp ?_ | refine tA ?_ | refine tA0 ?_ | refine tSt ?_ | refine tLU ?_ | refine tXw ?_ | refine tLe ?_ | refine tSe ?_ | refine tM ?_ | refine tN ?_ | refine tV ?_ | refine tW ?_ | fail)
    all_goals first | exact ⟨rfl, rfl⟩ | trace_state
  | cons c rest ih =>
    intro done j k1 hj hp
    have hlen : l.length = done.length + (rest.length + 1) := by rw [k1]; simp
    have gx := at_mid (f := u32row) k1 hj
    have hj1 : IntKind.wrap .i64 (j + 1) = ((done ++ [c]).length : Int) := by rw [wrap_ok (by omega) (by omega)]; simp [hj]
    have hl1 : l = (done ++ [c]) ++ rest := by rw [k1]; simp
    have hmap : ((done ++ [c]).map (oneC ⟨dk, dd⟩)).map Chn.row = (done.map (oneC ⟨dk, dd⟩)).map Chn.row ++ [Chn.row (oneC ⟨dk, dd⟩ c)] := by simp
    rcases List.eq_nil_or_concat done with rfl | ⟨ds, p, rfl⟩
    · have hj0 : j = 0 := by simpa using hj
      subst hj0
      have g := ih [c] _ hl1 hj1 (by simp)
      refine wR (gI ?_)
      repeat' (first | ((first | refine runC ?_ | refine runC0 ?_ | refine runO ?_ | refine runR ?_); (conv => whnf); first | (refine ⟨fun hb => ?_, fun hb => ?_⟩ <;> try exact noWay) | refine oA ?_ | refine oB ?_ | refine oC ?_ | refine oR ?_ | refine fR ?_ | refine fRk ?_ | refine oF ?_) | refine sSA ?_ | refine sL ?_ | refine sQ ?_ | refine sX ?_ | refine sXa ?_ | refine sXs ?_ | refine sK ?_ | refine sKa ?_ | refine sLk ?_ | refine sUp ?_ | refine sDel ?_ | refine sSt ?_ | refine sLU ?_ | refine sXw ?_ | refine sLe ?_ | refine sSe ?_ | refine sM ?_ | refine sA ?_ | refine sA0 ?_ | refine sA1 ?_ | refine sMk ?_ | refine sV ?_ | refine sW ?_ | refine tSA ?_ | refine tL ?_ | refine tQ ?_ | refine tX ?_ | refine tXs ?_ | refine tK ?_ | refine tKa ?_ | refine tLk ?_ | refine tUp ?_ | refine tA ?_ | refine tA0 ?_ | refine tSt ?_ | refine tLU ?_ | refine tXw ?_ | refine tLe ?_ | refine tSe ?_ | refine tM ?_ | refine tN ?_ | refine tV ?_ | refine tW ?_ | fail)
      exact rE g
    · rw [List.concat_eq_append] at *
      have hj2 : j = ds.length + 1 := by simpa using hj
      have ej : IntKind.wrap .i64 (j - 1) = ds.length := by rw [wrap_ok (by omega) (by omega)]; omega
      have ej0 : 0 ≤ IntKind.wrap .i64 (j - 1) := by omega
      have gp : (l.map u32row)[(IntKind.wrap .i64 (j - 1)).toNat]? = some (u32row p) := at_mid (done := ds) (rest := c :: rest) (by rw [k1]; simp) ej
      refine wR (gI ?_)
      repeat' (first | ((first | refine runC ?_ | refine runC0 ?_ | refine runO ?_ | refine runR ?_); (conv => whnf); first | (refine ⟨fun hb => ?_, fun hb => ?_⟩ <;> try exact noWay) | refine oA ?_ | refine oB ?_ | refine oC ?_ | refine oR ?_ | refine fR ?_ | refine fRk ?_ | refine oF ?_) | refine sSA ?_ | refine sL ?_ | refine sQ ?_ | refine sX ?_ | refine sXa ?_ | refine sXs ?_ | refine sK ?_ | refine sKa ?_ | refine sLk ?_ | refine sUp ?_ | refine sDel ?_ | refine sSt ?_ | refine sLU ?_ | refine sXw ?_ | refine sLe ?_ | refine sSe ?_ | refine sM ?_ | refine sA ?_ | refine sA0 ?_ | refine sA1 ?_ | refine sMk ?_ | refine sV ?_ | refine sW ?_ | refine tSA ?_ | refine tL ?_ | refine tQ ?_ | refine tX ?_ | refine tXs ?_ | refine tK ?_ | refine tKa ?_ | refine tLk ?_ | refine tUp ?_ | refine tA ?_ | refine tA0 ?_ | refine tSt ?_ | refine tLU ?_ | refine tXw ?_ | refine tLe ?_ | refine tSe ?_ | refine tM ?_ | refine tN ?_ | refine tV ?_ | refine tW ?_ | fail)
      all_goals first
        | (exfalso; have := of_decide_eq_false (by assumption : decide (j > 0) = false); omega)
        | exact ⟨rfl, rfl⟩
        | skip
      have hle : ¬ c ≤ p := of_decide_eq_false (by assumption : decide (c ≤ p) = false)
      have g := ih (ds ++ [p] ++ [c]) _ hl1 hj1 (by
        rw [List.pairwise_append] at hp ⊢
        refine ⟨List.pairwise_append.2 hp, by simp, fun a ha b hb => ?_⟩
        have hb : b = c := by simpa using hb
        subst hb
        rcases List.mem_append.1 ha with ha | ha
        · have := hp.2.2 a ha p (by simp); omega
        · have : a = p := by simpa using ha
          omega)
      rw [hmap] at g
      exact rE g
theorem u32s_typed {xs : List D} (h : Typed Try.prog 49 xs) : ∃ l : List Int, xs = [.list (l.map u32row)] ∧ ∀ n ∈ l, 0 ≤ n ∧ n < 4294967296 := by
  obtain ⟨rows, rfl, hr, hs⟩ := h.slice_inv Try.underlying49
  obtain ⟨l, rfl, hl⟩ := list_typed (f := u32row) (p := fun n => 0 ≤ n ∧ n < 4294967296) (fun row _ h => by
    obtain ⟨n, rfl, w⟩ := h.int_inv Try.underlying33
    exact ⟨n, rfl, u32_wf w⟩) hr
  exact ⟨l, rfl, hl⟩
theorem few23_typed {x0 x1 x2 x3 : List D} (y0 : Typed Try.prog 49 x0) (y1 : Typed Try.prog 32 x1) (y2 : Typed Try.prog 32 x2) (y3 : Typed Try.prog 3 x3) :
    Comp Try.prog 6 [argV (aggTy Try.prog 49) x0, argV (aggTy Try.prog 32) x1, argV (aggTy Try.prog 32) x2, argV (aggTy Try.prog 3) x3] (Am.bool true) := by
  have a0 : aggTy Try.prog 49 = false := by unfold aggTy; rw [Try.underlying49]
  have a1 : aggTy Try.prog 32 = true := by unfold aggTy; rw [Try.underlying32]
  have a3 : aggTy Try.prog 3 = false := by unfold aggTy; rw [Try.underlying3]
  obtain ⟨l, rfl, hl⟩ := u32s_typed y0
  obtain ⟨d, rfl⟩ := act_typed y1
  obtain ⟨o, rfl⟩ := act_typed y2
  obtain ⟨n, rfl, hn⟩ := y3.int_inv Try.underlying3
  rw [a0, a1, a3]
  by_cases h1 : 30 < l.length
  · exact few_bad l d o n (.inl h1)
  by_cases h2 : l.length < 1
  · exact few_bad l d o n (.inr (.inl h2))
  by_cases h3 : n < 0
  · exact few_bad l d o n (.inr (.inr (.inl h3)))
  by_cases h4 : d = o
  · exact few_bad l d o n (.inr (.inr (.inr h4)))
  exact few23 l d o n h1 h2 h3 h4 hl
end Go.Proofs.Ytceccgnpkelpkaa
