/- A part of a proof: functions of the program, walked over the abstract machine. -/
import Derived.Test.YtceccgnpkelpkaaSpan9
set_option linter.unusedVariables false
set_option linter.unusedSimpArgs false
namespace Go.Proofs.Ytceccgnpkelpkaa
open Go Go.Am Go.Proofs
attribute [local irreducible] W WL DL WO RoundEnd
set_option maxRecDepth 10000
set_option maxHeartbeats 4000000
/-- are numbers one above the other? -/
def incr : Int → List Chn → Bool
  | _, [] => true
  | p, c :: r => if c.nr ≤ p then false else incr c.nr r
def incrs : List Chn → Bool
  | [] => true
  | c :: r => incr c.nr r
/-- the document's way -/
def refF (d : Act) : List Chn → Int → List Span → List Span
  | [], f, out => if f < 4294967296 then addF out ⟨f, 4294967295, [], d⟩ else out
  | c :: r, f, out => refF d r (c.nr + 1) (addF (if f < c.nr then addF out ⟨f, c.nr - 1, [], d⟩ else out) (c.led d))
def spansF (l : List Chn) (d : Act) : List Span := if incrs l then refF d l 0 [] else []
theorem incrs_cons (c c2 : Chn) (r : List Chn) : incrs (c :: c2 :: r) = if c2.nr ≤ c.nr then false else incrs (c2 :: r) := rfl
theorem spansBad (l : List Chn) (d : Act) (hl : l.length ≤ 100) (hok : ∀ c ∈ l, c.fine) (hi : incrs l = false) : Comp Try.prog 15 [lst Chn.row l, .agg (d.row.map .d)] (lst Span.row []) := by
  obtain ⟨dk, dd⟩ := d
  refine Spec.body (C := cx [(6, true)] 107) fits (fn := Try.f15) Try.func15 rfl (by decide) (by decide) (gZ 1 (gI ?_))
  repeat' (first | ((first | refine runC ?_ | refine runC0 ?_ | refine runO ?_ | refine runR ?_); (conv => whnf); first | (refine ⟨fun hb => ?_, fun hb => ?_⟩ <;> try exact noWay) | refine oA ?_ | refine oB ?_ | refine oC ?_ | refine oR ?_ | refine fR ?_ | refine fRk ?_ | refine oF ?_) | refine sSA ?_ | refine sL ?_ | refine sQ ?_ | refine sX ?_ | refine sXa ?_ | refine sXs ?_ | refine sK ?_ | refine sKa ?_ | refine sLk ?_ | refine sUp ?_ | refine sDel ?_ | refine sSt ?_ | refine sLU ?_ | refine sXw ?_ | refine sLe ?_ | refine sSe ?_ | refine sM ?_ | refine sA ?_ | refine sA0 ?_ | refine sA1 ?_ | refine sMk ?_ | refine sV ?_ | refine sW ?_ | refine tSA ?_ | refine tL ?_ | refine tQ ?_ | refine tX ?_ | refine tXs ?_ | refine tK ?_ | refine tKa ?_ | refine tLk ?_ | refine tUp ?_ | refine tA ?_ | refine tA0 ?_ | refine tSt ?_ | refine tLU ?_ | refine tXw ?_ | refine tLe ?_ | refine tSe ?_ | refine tM ?_ | refine tN ?_ | refine tV ?_ | refine tW ?_ | fail)
  refine wLoop [0, 3, 5] 1 (l.length + 1) ?_
  refine (fun key => key l [] 1 rfl rfl hi : (∀ (rest done : List Chn) (j : Int), l = done ++ rest → j = done.length + 1 → incrs rest = false →
    WR2 _ _ _ _ _ (rest.length + 1) [(0, lst Chn.row l), (3, .one (.ptr 0 0)), (5, int .i64 j)] [.var [.d (.sc (.int .i64 dk)), .d (.sc (.int .i64 dd))]]) → _) ?_
  intro rest
  induction rest with
  | nil => intro done j h1 hj hr; simp [incrs] at hr
  | cons c rest ih =>
    intro done j h1 hj hr
    rcases rest with _ | ⟨c2, r⟩
    · simp [incrs, incr] at hr
    have hlen : l.length = done.length + (r.length + 2) := by rw [h1]; simp
    have ej : IntKind.wrap .i64 (j - 1) = done.length := by rw [wrap_ok (by omega) (by omega)]; omega
    have ej0 : 0 ≤ IntKind.wrap .i64 (j - 1) := by omega
    have g1 : (l.map Chn.row)[j.toNat]? = some c2.row := at_mid (done := done ++ [c]) (rest := r) (by rw [h1]; simp) (by rw [hj]; simp)
    have g2 : (l.map Chn.row)[(IntKind.wrap .i64 (j - 1)).toNat]? = some c.row := at_mid h1 ej
    rw [incrs_cons] at hr
    obtain ⟨n1, s1⟩ := c
    obtain ⟨n2, s2⟩ := c2
    refine wR (gI ?_)
    repeat' (first | ((first | refine runC ?_ | refine runC0 ?_ | refine runO ?_ | refine runR ?_); (conv => whnf); first | (refine ⟨fun hb => ?_, fun hb => ?_⟩ <;> try exact noWay) | refine oA ?_ | refine oB ?_ | refine oC ?_ | refine oR ?_ | refine fR ?_ | refine fRk ?_ | refine oF ?_) | refine sSA ?_ | refine sL ?_ | refine sQ ?_ | refine sX ?_ | refine sXa ?_ | refine sXs ?_ | refine sK ?_ | refine sKa ?_ | refine sLk ?_ | refine sUp ?_ | refine sDel ?_ | refine sSt ?_ | refine sLU ?_ | refine sXw ?_ | refine sLe ?_ | refine sSe ?_ | refine sM ?_ | refine sA ?_ | refine sA0 ?_ | refine sA1 ?_ | refine sMk ?_ | refine sV ?_ | refine sW ?_ | refine tSA ?_ | refine tL ?_ | refine tQ ?_ | refine tX ?_ | refine tXs ?_ | refine tK ?_ | refine tKa ?_ | refine tLk ?_ | refine tUp ?_ | refine tA ?_ | refine tA0 ?_ | refine tSt ?_ | refine tLU ?_ | refine tXw ?_ | refine tLe ?_ | refine tSe ?_ | refine tM ?_ | refine tN ?_ | refine tV ?_ | refine tW ?_ | fail)
    · exact ⟨rfl, rfl⟩
    · have hb2 : ¬ n2 ≤ n1 := of_decide_eq_false hb
      rw [if_neg hb2] at hr
      refine rE (ih (done ++ [⟨n1, s1⟩]) _ (by rw [h1]; simp) ?_ hr)
      rw [wrap_ok (by omega) (by omega)]; simp [hj]
theorem spansLoop (l : List Chn) (d : Act) (hl : l.length ≤ 100) (hok : ∀ c ∈ l, c.fine) (hi : incrs l = true) : Comp Try.prog 15 [lst Chn.row l, .agg (d.row.map .d)] (lst Span.row (refF d l 0 [])) := by
  generalize hfb : refF d l 0 [] = fb
  obtain ⟨dk, dd⟩ := d
  refine Spec.body (C := cx [(6, true)] 107) fits (fn := Try.f15) Try.func15 rfl (by decide) (by decide) (gZ 1 (gI ?_))
  repeat' (first | ((first | refine runC ?_ | refine runC0 ?_ | refine runO ?_ | refine runR ?_); (conv => whnf); first | (refine ⟨fun hb => ?_, fun hb => ?_⟩ <;> try exact noWay) | refine oA ?_ | refine oB ?_ | refine oC ?_ | refine oR ?_ | refine fR ?_ | refine fRk ?_ | refine oF ?_) | refine sSA ?_ | refine sL ?_ | refine sQ ?_ | refine sX ?_ | refine sXa ?_ | refine sXs ?_ | refine sK ?_ | refine sKa ?_ | refine sLk ?_ | refine sUp ?_ | refine sDel ?_ | refine sSt ?_ | refine sLU ?_ | refine sXw ?_ | refine sLe ?_ | refine sSe ?_ | refine sM ?_ | refine sA ?_ | refine sA0 ?_ | refine sA1 ?_ | refine sMk ?_ | refine sV ?_ | refine sW ?_ | refine tSA ?_ | refine tL ?_ | refine tQ ?_ | refine tX ?_ | refine tXs ?_ | refine tK ?_ | refine tKa ?_ | refine tLk ?_ | refine tUp ?_ | refine tA ?_ | refine tA0 ?_ | refine tSt ?_ | refine tLU ?_ | refine tXw ?_ | refine tLe ?_ | refine tSe ?_ | refine tM ?_ | refine tN ?_ | refine tV ?_ | refine tW ?_ | fail)
  refine wLoop [0, 3, 5] 1 (l.length + 1) ?_
  refine (fun key => key l.length l [] 1 (by omega) rfl rfl hi : (∀ (m : Nat) (rest done : List Chn) (j : Int), rest.length ≤ m + 1 → l = done ++ rest → j = done.length + 1 → incrs rest = true →
    WR2 _ _ _ _ _ (m + 1) [(0, lst Chn.row l), (3, .one (.ptr 0 0)), (5, int .i64 j)] [.var [.d (.sc (.int .i64 dk)), .d (.sc (.int .i64 dd))]]) → _) ?_
  intro m
  induction m with
  | succ m ih =>
    intro rest done j hm h1 hj hr
    by_cases h0 : rest.length ≤ m + 1
    · exact WR2.mono (ih rest done j h0 h1 hj hr) (by omega)
    rcases rest with _ | ⟨c, _ | ⟨c2, r⟩⟩
    · simp at h0
    · simp at h0
    have hlen : l.length = done.length + (r.length + 2) := by rw [h1]; simp
    have ej : IntKind.wrap .i64 (j - 1) = done.length := by rw [wrap_ok (by omega) (by omega)]; omega
    have ej0 : 0 ≤ IntKind.wrap .i64 (j - 1) := by omega
    have g1 : (l.map Chn.row)[j.toNat]? = some c2.row := at_mid (done := done ++ [c]) (rest := r) (by rw [h1]; simp) (by rw [hj]; simp)
    have g2 : (l.map Chn.row)[(IntKind.wrap .i64 (j - 1)).toNat]? = some c.row := at_mid h1 ej
    rw [incrs_cons] at hr
    obtain ⟨n1, s1⟩ := c
    obtain ⟨n2, s2⟩ := c2
    have hb2 : ¬ n2 ≤ n1 := fun h => by rw [if_pos h] at hr; simp at hr
    rw [if_neg hb2] at hr
    have a1 : decide (n2 ≤ n1) = false := decide_eq_false hb2
    refine wR (gI ?_)
    repeat' (first | ((first | refine runC ?_ | refine runC0 ?_ | refine runO ?_ | refine runR ?_); (conv => whnf); first | (refine ⟨fun hb => ?_, fun hb => ?_⟩ <;> try exact noWay) | refine oA ?_ | refine oB ?_ | refine oC ?_ | refine oR ?_ | refine fR ?_ | refine fRk ?_ | refine oF ?_) | refine sSA ?_ | refine sL ?_ | refine sQ ?_ | refine sX ?_ | refine sXa ?_ | refine sXs ?_ | refine sK ?_ | refine sKa ?_ | refine sLk ?_ | refine sUp ?_ | refine sDel ?_ | refine sSt ?_ | refine sLU ?_ | refine sXw ?_ | refine sLe ?_ | refine sSe ?_ | refine sM ?_ | refine sA ?_ | refine sA0 ?_ | refine sA1 ?_ | refine sMk ?_ | refine sV ?_ | refine sW ?_ | refine tSA ?_ | refine tL ?_ | refine tQ ?_ | refine tX ?_ | refine tXs ?_ | refine tK ?_ | refine tKa ?_ | refine tLk ?_ | refine tUp ?_ | refine tA ?_ | refine tA0 ?_ | refine tSt ?_ | refine tLU ?_ | refine tXw ?_ | refine tLe ?_ | refine tSe ?_ | refine tM ?_ | refine tN ?_ | refine tV ?_ | refine tW ?_ | fail)
    refine rE (ih (⟨n2, s2⟩ :: r) (done ++ [⟨n1, s1⟩]) _ (by simpa using hm) (by rw [h1]; simp) ?_ hr)
    rw [wrap_ok (by omega) (by omega)]; simp [hj]
  | zero =>
    intro rest done j hm h1 hj hr
    have hlen : l.length = done.length + rest.length := by rw [h1]; simp
    refine wR (gI ?_)
    repeat' (first | ((first | refine runC ?_ | refine runC0 ?_ | refine runO ?_ | refine runR ?_); (conv => whnf); first | (refine ⟨fun hb => ?_, fun hb => ?_⟩ <;> try exact noWay) | refine oA ?_ | refine oB ?_ | refine oC ?_ | refine oR ?_ | refine fR ?_ | refine fRk ?_ | refine oF ?_) | refine sSA ?_ | refine sL ?_ | refine sQ ?_ | refine sX ?_ | refine sXa ?_ | refine sXs ?_ | refine sK ?_ | refine sKa ?_ | refine sLk ?_ | refine sUp ?_ | refine sDel ?_ | refine sSt ?_ | refine sLU ?_ | refine sXw ?_ | refine sLe ?_ | refine sSe ?_ | refine sM ?_ | refine sA ?_ | refine sA0 ?_ | refine sA1 ?_ | refine sMk ?_ | refine sV ?_ | refine sW ?_ | refine tSA ?_ | refine tL ?_ | refine tQ ?_ | refine tX ?_ | refine tXs ?_ | refine tK ?_ | refine tKa ?_ | refine tLk ?_ | refine tUp ?_ | refine tA ?_ | refine tA0 ?_ | refine tSt ?_ | refine tLU ?_ | refine tXw ?_ | refine tLe ?_ | refine tSe ?_ | refine tM ?_ | refine tN ?_ | refine tV ?_ | refine tW ?_ | fail)
    clear hm h1 hj hr hlen
    refine wLoop [0, 3, 6, 7, 8] 2 (l.length + 1) ?_
    refine (fun key => key l [] _ 0 [] rfl rfl hfb.symm ⟨by omega, by omega⟩ (by simp) (by simp) :
      (∀ (rest done : List Chn) (j f : Int) (out : List Span), l = done ++ rest → j = done.length → fb = refF ⟨dk, dd⟩ rest f out → 0 ≤ f ∧ f ≤ 4294967296 → out.length ≤ 2 * done.length → (∀ y ∈ out, good y.steps) →
      WR2 _ _ _ _ _ (rest.length + 1) [(0, lst Chn.row l), (3, .one (.ptr 0 0)), (6, .one (.arr 1 0 (out.map Span.row).length)), (7, int .u64 f), (8, int .i64 j)] [.var [.d (.sc (.int .i64 dk)), .d (.sc (.int .i64 dd))], .arr 0 true 5 (out.map Span.row)]) → _) ?_
    clear hb rest done j
    intro rest
    induction rest with
    | nil =>
      intro done j f out h1 hj hr hf ho hg
      have hlen : l.length = done.length := by rw [h1]; simp
      have hc := addRefR 0 out ⟨IntKind.u32.wrap f, 4294967295, [], ⟨dk, dd⟩⟩ (by omega) hg
      refine wR (gI ?_)
      repeat' (first | ((first | refine runC ?_ | refine runC0 ?_ | refine runO ?_ | refine runR ?_); (conv => whnf); first | (refine ⟨fun hb => ?_, fun hb => ?_⟩ <;> try exact noWay) | refine oA ?_ | refine oB ?_ | refine oC ?_ | refine oR ?_ | refine fR ?_ | refine fRk ?_ | refine oF ?_) | refine fun k => WL.cr' [1] _ _ hc rfl rfl rfl rfl rfl ⟨rfl, trivial⟩ rfl rfl rfl rfl (oW ?_ _) | refine sSA ?_ | refine sL ?_ | refine sQ ?_ | refine sX ?_ | refine sXa ?_ | refine sXs ?_ | refine sK ?_ | refine sKa ?_ | refine sLk ?_ | refine sUp ?_ | refine sDel ?_ | refine sSt ?_ | refine sLU ?_ | refine sXw ?_ | refine sLe ?_ | refine sSe ?_ | refine sM ?_ | refine sA ?_ | refine sA0 ?_ | refine sA1 ?_ | refine sMk ?_ | refine sV ?_ | refine sW ?_ | refine tSA ?_ | refine tL ?_ | refine tQ ?_ | refine tX ?_ | refine tXs ?_ | refine tK ?_ | refine tKa ?_ | refine tLk ?_ | refine tUp ?_ | refine tA ?_ | refine tA0 ?_ | refine tSt ?_ | refine tLU ?_ | refine tXw ?_ | refine tLe ?_ | refine tSe ?_ | refine tM ?_ | refine tN ?_ | refine tV ?_ | refine tW ?_ | fail)
      · have hb2 : f < 4294967296 := by simpa using hb
        rw [refF, if_pos hb2] at hr
        exact ⟨by rw [hr, wrap_u32 (by omega) (by omega)]; rfl, rfl⟩
      · have hb2 : ¬ f < 4294967296 := by simpa using hb
        rw [refF, if_neg hb2] at hr
        exact ⟨by rw [hr]; rfl, rfl⟩
    | cons c rest ih =>
      intro done j f out h1 hj hr hf ho hg
      have hlen : l.length = done.length + (rest.length + 1) := by rw [h1]; simp
      have hc := hok c (by rw [h1]; simp)
      have hn0 := hc.2.1
      have hn1 := hc.2.2
      obtain ⟨nr, st⟩ := c
      have m0 : 0 ≤ nr := hn0
      have m1 : nr < 4294967296 := hn1
      have hlo := led_good (c := ⟨nr, st⟩) ⟨dk, dd⟩ hc.1
      have e1 : IntKind.u64.wrap nr = nr := wrap_u64 (by omega) (by omega)
      have e2 : IntKind.u64.wrap (IntKind.u64.wrap nr + 1) = nr + 1 := by rw [e1]; exact wrap_u64 (by omega) (by omega)
      have e3 : IntKind.u32.wrap (IntKind.u64.wrap nr) = nr := by rw [e1]; exact wrap_u32 (by omega) (by omega)
      have hgg := addF_good (x := ⟨IntKind.u32.wrap f, IntKind.u32.wrap (IntKind.u64.wrap (IntKind.u64.wrap nr - 1)), [], ⟨dk, dd⟩⟩) good_nil hg
      have hlg := addF_len ⟨IntKind.u32.wrap f, IntKind.u32.wrap (IntKind.u64.wrap (IntKind.u64.wrap nr - 1)), [], ⟨dk, dd⟩⟩ out
      have c1 := addRefR 0 out ⟨IntKind.u32.wrap f, IntKind.u32.wrap (IntKind.u64.wrap (IntKind.u64.wrap nr - 1)), [], ⟨dk, dd⟩⟩ (by omega) hg
      rcases List.eq_nil_or_concat st with rfl | ⟨ls, y, rfl⟩
      · have hled2 : Chn.led ⟨nr, []⟩ ⟨dk, dd⟩ = ⟨nr, nr, [], ⟨dk, dd⟩⟩ := rfl
        rw [hled2] at hlo
        have c2 := addRefR 0 (addF out ⟨IntKind.u32.wrap f, IntKind.u32.wrap (IntKind.u64.wrap (IntKind.u64.wrap nr - 1)), [], ⟨dk, dd⟩⟩) ⟨IntKind.u32.wrap (IntKind.u64.wrap nr), IntKind.u32.wrap (IntKind.u64.wrap nr), [], ⟨dk, dd⟩⟩ (by omega) hgg
        have c3 := addRefR 0 out ⟨IntKind.u32.wrap (IntKind.u64.wrap nr), IntKind.u32.wrap (IntKind.u64.wrap nr), [], ⟨dk, dd⟩⟩ (by omega) hg
        refine wR (gI ?_)
        repeat' (first | ((first | refine runC ?_ | refine runC0 ?_ | refine runO ?_ | refine runR ?_); (conv => whnf); first | (refine ⟨fun hb => ?_, fun hb => ?_⟩ <;> try exact noWay) | refine oA ?_ | refine oB ?_ | refine oC ?_ | refine oR ?_ | refine fR ?_ | refine fRk ?_ | refine oF ?_) | refine fun k => WL.cr' [1] _ _ c1 rfl rfl rfl rfl rfl ⟨rfl, trivial⟩ rfl rfl rfl rfl (oW ?_ _) | refine fun k => WL.cr' [1] _ _ c2 rfl rfl rfl rfl rfl ⟨rfl, trivial⟩ rfl rfl rfl rfl (oW ?_ _) | refine fun k => WL.cr' [1] _ _ c3 rfl rfl rfl rfl rfl ⟨rfl, trivial⟩ rfl rfl rfl rfl (oW ?_ _) | refine sSA ?_ | refine sL ?_ | refine sQ ?_ | refine sX ?_ | refine sXa ?_ | refine sXs ?_ | refine sK ?_ | refine sKa ?_ | refine sLk ?_ | refine sUp ?_ | refine sDel ?_ | refine sSt ?_ | refine sLU ?_ | refine sXw ?_ | refine sLe ?_ | refine sSe ?_ | refine sM ?_ | refine sA ?_ | refine sA0 ?_ | refine sA1 ?_ | refine sMk ?_ | refine sV ?_ | refine sW ?_ | refine tSA ?_ | refine tL ?_ | refine tQ ?_ | refine tX ?_ | refine tXs ?_ | refine tK ?_ | refine tKa ?_ | refine tLk ?_ | refine tUp ?_ | refine tA ?_ | refine tA0 ?_ | refine tSt ?_ | refine tLU ?_ | refine tXw ?_ | refine tLe ?_ | refine tSe ?_ | refine tM ?_ | refine tN ?_ | refine tV ?_ | refine tW ?_ | fail)
        · have a2 : decide (f < IntKind.u64.wrap nr) = true := by assumption
          have b2 : f < nr := by have h := of_decide_eq_true a2; rw [e1] at h; exact h
          rw [refF, if_pos b2, hled2] at hr
          have e4 : IntKind.u32.wrap f = f := wrap_u32 (by omega) (by omega)
          have e5 : IntKind.u32.wrap (IntKind.u64.wrap (IntKind.u64.wrap nr - 1)) = nr - 1 := by rw [e1, wrap_u64 (by omega) (by omega), wrap_u32 (by omega) (by omega)]
          refine rE (ih (done ++ [⟨nr, []⟩]) _ _ (addF (addF out ⟨IntKind.u32.wrap f, IntKind.u32.wrap (IntKind.u64.wrap (IntKind.u64.wrap nr - 1)), [], ⟨dk, dd⟩⟩) ⟨IntKind.u32.wrap (IntKind.u64.wrap nr), IntKind.u32.wrap (IntKind.u64.wrap nr), [], ⟨dk, dd⟩⟩) (by rw [h1]; simp) ?_ ?_ ?_ ?_ ?_)
          · rw [wrap_ok (by omega) (by omega)]; simp [hj]
          · rw [hr, e2, e3, e4, e5]
          · rw [e2]; omega
          · have h8 := addF_len ⟨IntKind.u32.wrap (IntKind.u64.wrap nr), IntKind.u32.wrap (IntKind.u64.wrap nr), [], ⟨dk, dd⟩⟩ (addF out ⟨IntKind.u32.wrap f, IntKind.u32.wrap (IntKind.u64.wrap (IntKind.u64.wrap nr - 1)), [], ⟨dk, dd⟩⟩)
            simp only [List.length_append, List.length_cons, List.length_nil]
            omega
          · rw [e3]; exact addF_good hlo hgg
        · have a2 : decide (f < IntKind.u64.wrap nr) = false := by assumption
          have b2 : ¬ f < nr := by have h := of_decide_eq_false a2; rw [e1] at h; exact h
          rw [refF, if_neg b2, hled2] at hr
          refine rE (ih (done ++ [⟨nr, []⟩]) _ _ (addF out ⟨IntKind.u32.wrap (IntKind.u64.wrap nr), IntKind.u32.wrap (IntKind.u64.wrap nr), [], ⟨dk, dd⟩⟩) (by rw [h1]; simp) ?_ ?_ ?_ ?_ ?_)
          · rw [wrap_ok (by omega) (by omega)]; simp [hj]
          · rw [hr, e2, e3]
          · rw [e2]; omega
          · have h8 := addF_len ⟨IntKind.u32.wrap (IntKind.u64.wrap nr), IntKind.u32.wrap (IntKind.u64.wrap nr), [], ⟨dk, dd⟩⟩ out
            simp only [List.length_append, List.length_cons, List.length_nil]
            omega
          · rw [e3]; exact addF_good hlo hg
      · rw [List.concat_eq_append] at *
        have hy := hc.1.2 y (by simp)
        have hl2 : ls.length + 1 < 2 ^ 40 := by simpa using hc.1.1
        have ce := endsRefR y (by have := hy.1; omega)
        have hj1 : IntKind.wrap .i64 ((((ls ++ [y]).map Stp.row).length : Int) - 1) = ls.length := by
          rw [wrap_ok (by simp only [List.length_map, List.length_append, List.length_cons, List.length_nil]; omega) (by simp only [List.length_map, List.length_append, List.length_cons, List.length_nil]; omega)]; simp
        have hj0 : 0 ≤ IntKind.wrap .i64 ((((ls ++ [y]).map Stp.row).length : Int) - 1) := by omega
        have hrow : ((ls ++ [y]).map Stp.row)[(IntKind.wrap .i64 ((((ls ++ [y]).map Stp.row).length : Int) - 1)).toNat]? = some y.row := by rw [hj1]; simp
        have hj2 : IntKind.wrap .i64 ((((ls ++ [y]).map Stp.row).length : Int) - 1) ≤ (((ls ++ [y]).map Stp.row).length : Int) := by rw [hj1]; simp; omega
        have hcut : List.drop (0 : Int).toNat (List.take (IntKind.wrap .i64 ((((ls ++ [y]).map Stp.row).length : Int) - 1)).toNat ((ls ++ [y]).map Stp.row)) = ls.map Stp.row := by
          rw [hj1, List.map_append]
          have e : ((ls.length : Int)).toNat = (ls.map Stp.row).length := by simp
          rw [e, List.take_left]; rfl
        have apos : decide ((((ls ++ [y]).map Stp.row).length : Int) > 0) = true := by simp
        have hled : Chn.led ⟨nr, ls ++ [y]⟩ ⟨dk, dd⟩ = ⟨nr, nr, (if y.ends then (ls, y.act) else (ls ++ [y], ⟨dk, dd⟩)).1, (if y.ends then (ls, y.act) else (ls ++ [y], ⟨dk, dd⟩)).2⟩ := by
          simp only [Chn.led, ledF_last]
        obtain ⟨yc, ⟨yk, yd⟩⟩ := y
        cases hy2 : Stp.ends ⟨yc, ⟨yk, yd⟩⟩ with
        | true =>
          rw [hy2] at ce hled
          have hled2 : Chn.led ⟨nr, ls ++ [⟨yc, ⟨yk, yd⟩⟩]⟩ ⟨dk, dd⟩ = ⟨nr, nr, ls, ⟨yk, yd⟩⟩ := hled
          rw [hled2] at hlo
          have c2 := addRefR 0 (addF out ⟨IntKind.u32.wrap f, IntKind.u32.wrap (IntKind.u64.wrap (IntKind.u64.wrap nr - 1)), [], ⟨dk, dd⟩⟩) ⟨IntKind.u32.wrap (IntKind.u64.wrap nr), IntKind.u32.wrap (IntKind.u64.wrap nr), ls, ⟨yk, yd⟩⟩ (by omega) hgg
          have c3 := addRefR 0 out ⟨IntKind.u32.wrap (IntKind.u64.wrap nr), IntKind.u32.wrap (IntKind.u64.wrap nr), ls, ⟨yk, yd⟩⟩ (by omega) hg
          refine wR (gI ?_)
          repeat' (first | ((first | refine runC ?_ | refine runC0 ?_ | refine runO ?_ | refine runR ?_); (conv => whnf); first | (refine ⟨fun hb => ?_, fun hb => ?_⟩ <;> try exact noWay) | refine oA ?_ | refine oB ?_ | refine oC ?_ | refine oR ?_ | refine fR ?_ | refine fRk ?_ | refine oF ?_) | refine sC (ce) ?_ | refine fun k => WL.cr' [1] _ _ c1 rfl rfl rfl rfl rfl ⟨rfl, trivial⟩ rfl rfl rfl rfl (oW ?_ _) | refine fun k => WL.cr' [1] _ _ c2 rfl rfl rfl rfl rfl ⟨rfl, trivial⟩ rfl rfl rfl rfl (oW ?_ _) | refine fun k => WL.cr' [1] _ _ c3 rfl rfl rfl rfl rfl ⟨rfl, trivial⟩ rfl rfl rfl rfl (oW ?_ _) | refine fun k => lK fits (oW ?_ _) (h1 := by exact Int.le_refl _) (h2 := by exact hj0) (h3 := by exact hj2) (hr := by exact hcut) | refine sSA ?_ | refine sL ?_ | refine sQ ?_ | refine sX ?_ | refine sXa ?_ | refine sXs ?_ | refine sK ?_ | refine sKa ?_ | refine sLk ?_ | refine sUp ?_ | refine sDel ?_ | refine sSt ?_ | refine sLU ?_ | refine sXw ?_ | refine sLe ?_ | refine sSe ?_ | refine sM ?_ | refine sA ?_ | refine sA0 ?_ | refine sA1 ?_ | refine sMk ?_ | refine sV ?_ | refine sW ?_ | refine tC (ce) ?_ | refine tSA ?_ | refine tL ?_ | refine tQ ?_ | refine tX ?_ | refine tXs ?_ | refine tK ?_ | refine tKa ?_ | refine tLk ?_ | refine tUp ?_ | refine tA ?_ | refine tA0 ?_ | refine tSt ?_ | refine tLU ?_ | refine tXw ?_ | refine tLe ?_ | refine tSe ?_ | refine tM ?_ | refine tN ?_ | refine tV ?_ | refine tW ?_ | fail)
          · have a2 : decide (f < IntKind.u64.wrap nr) = true := by assumption
            have b2 : f < nr := by have h := of_decide_eq_true a2; rw [e1] at h; exact h
            rw [refF, if_pos b2, hled2] at hr
            have e4 : IntKind.u32.wrap f = f := wrap_u32 (by omega) (by omega)
            have e5 : IntKind.u32.wrap (IntKind.u64.wrap (IntKind.u64.wrap nr - 1)) = nr - 1 := by rw [e1, wrap_u64 (by omega) (by omega), wrap_u32 (by omega) (by omega)]
            refine rE (ih (done ++ [⟨nr, ls ++ [⟨yc, ⟨yk, yd⟩⟩]⟩]) _ _ (addF (addF out ⟨IntKind.u32.wrap f, IntKind.u32.wrap (IntKind.u64.wrap (IntKind.u64.wrap nr - 1)), [], ⟨dk, dd⟩⟩) ⟨IntKind.u32.wrap (IntKind.u64.wrap nr), IntKind.u32.wrap (IntKind.u64.wrap nr), ls, ⟨yk, yd⟩⟩) (by rw [h1]; simp) ?_ ?_ ?_ ?_ ?_)
            · rw [wrap_ok (by omega) (by omega)]; simp [hj]
            · rw [hr, e2, e3, e4, e5]
            · rw [e2]; omega
            · have h8 := addF_len ⟨IntKind.u32.wrap (IntKind.u64.wrap nr), IntKind.u32.wrap (IntKind.u64.wrap nr), ls, ⟨yk, yd⟩⟩ (addF out ⟨IntKind.u32.wrap f, IntKind.u32.wrap (IntKind.u64.wrap (IntKind.u64.wrap nr - 1)), [], ⟨dk, dd⟩⟩)
              simp only [List.length_append, List.length_cons, List.length_nil]
              omega
            · rw [e3]; exact addF_good hlo hgg
          · have a2 : decide (f < IntKind.u64.wrap nr) = false := by assumption
            have b2 : ¬ f < nr := by have h := of_decide_eq_false a2; rw [e1] at h; exact h
            rw [refF, if_neg b2, hled2] at hr
            refine rE (ih (done ++ [⟨nr, ls ++ [⟨yc, ⟨yk, yd⟩⟩]⟩]) _ _ (addF out ⟨IntKind.u32.wrap (IntKind.u64.wrap nr), IntKind.u32.wrap (IntKind.u64.wrap nr), ls, ⟨yk, yd⟩⟩) (by rw [h1]; simp) ?_ ?_ ?_ ?_ ?_)
            · rw [wrap_ok (by omega) (by omega)]; simp [hj]
            · rw [hr, e2, e3]
            · rw [e2]; omega
            · have h8 := addF_len ⟨IntKind.u32.wrap (IntKind.u64.wrap nr), IntKind.u32.wrap (IntKind.u64.wrap nr), ls, ⟨yk, yd⟩⟩ out
              simp only [List.length_append, List.length_cons, List.length_nil]
              omega
            · rw [e3]; exact addF_good hlo hg
        | false =>
          rw [hy2] at ce hled
          have hled2 : Chn.led ⟨nr, ls ++ [⟨yc, ⟨yk, yd⟩⟩]⟩ ⟨dk, dd⟩ = ⟨nr, nr, ls ++ [⟨yc, ⟨yk, yd⟩⟩], ⟨dk, dd⟩⟩ := hled
          rw [hled2] at hlo
          have c2 := addRefR 0 (addF out ⟨IntKind.u32.wrap f, IntKind.u32.wrap (IntKind.u64.wrap (IntKind.u64.wrap nr - 1)), [], ⟨dk, dd⟩⟩) ⟨IntKind.u32.wrap (IntKind.u64.wrap nr), IntKind.u32.wrap (IntKind.u64.wrap nr), ls ++ [⟨yc, ⟨yk, yd⟩⟩], ⟨dk, dd⟩⟩ (by omega) hgg
          have c3 := addRefR 0 out ⟨IntKind.u32.wrap (IntKind.u64.wrap nr), IntKind.u32.wrap (IntKind.u64.wrap nr), ls ++ [⟨yc, ⟨yk, yd⟩⟩], ⟨dk, dd⟩⟩ (by omega) hg
          refine wR (gI ?_)
          repeat' (first | ((first | refine runC ?_ | refine runC0 ?_ | refine runO ?_ | refine runR ?_); (conv => whnf); first | (refine ⟨fun hb => ?_, fun hb => ?_⟩ <;> try exact noWay) | refine oA ?_ | refine oB ?_ | refine oC ?_ | refine oR ?_ | refine fR ?_ | refine fRk ?_ | refine oF ?_) | refine sC (ce) ?_ | refine fun k => WL.cr' [1] _ _ c1 rfl rfl rfl rfl rfl ⟨rfl, trivial⟩ rfl rfl rfl rfl (oW ?_ _) | refine fun k => WL.cr' [1] _ _ c2 rfl rfl rfl rfl rfl ⟨rfl, trivial⟩ rfl rfl rfl rfl (oW ?_ _) | refine fun k => WL.cr' [1] _ _ c3 rfl rfl rfl rfl rfl ⟨rfl, trivial⟩ rfl rfl rfl rfl (oW ?_ _) | refine sSA ?_ | refine sL ?_ | refine sQ ?_ | refine sX ?_ | refine sXa ?_ | refine sXs ?_ | refine sK ?_ | refine sKa ?_ | refine sLk ?_ | refine sUp ?_ | refine sDel ?_ | refine sSt ?_ | refine sLU ?_ | refine sXw ?_ | refine sLe ?_ | refine sSe ?_ | refine sM ?_ | refine sA ?_ | refine sA0 ?_ | refine sA1 ?_ | refine sMk ?_ | refine sV ?_ | refine sW ?_ | refine tC (ce) ?_ | refine tSA ?_ | refine tL ?_ | refine tQ ?_ | refine tX ?_ | refine tXs ?_ | refine tK ?_ | refine tKa ?_ | refine tLk ?_ | refine tUp ?_ | refine tA ?_ | refine tA0 ?_ | refine tSt ?_ | refine tLU ?_ | refine tXw ?_ | refine tLe ?_ | refine tSe ?_ | refine tM ?_ | refine tN ?_ | refine tV ?_ | refine tW ?_ | fail)
          · have a2 : decide (f < IntKind.u64.wrap nr) = true := by assumption
            have b2 : f < nr := by have h := of_decide_eq_true a2; rw [e1] at h; exact h
            rw [refF, if_pos b2, hled2] at hr
            have e4 : IntKind.u32.wrap f = f := wrap_u32 (by omega) (by omega)
            have e5 : IntKind.u32.wrap (IntKind.u64.wrap (IntKind.u64.wrap nr - 1)) = nr - 1 := by rw [e1, wrap_u64 (by omega) (by omega), wrap_u32 (by omega) (by omega)]
            refine rE (ih (done ++ [⟨nr, ls ++ [⟨yc, ⟨yk, yd⟩⟩]⟩]) _ _ (addF (addF out ⟨IntKind.u32.wrap f, IntKind.u32.wrap (IntKind.u64.wrap (IntKind.u64.wrap nr - 1)), [], ⟨dk, dd⟩⟩) ⟨IntKind.u32.wrap (IntKind.u64.wrap nr), IntKind.u32.wrap (IntKind.u64.wrap nr), ls ++ [⟨yc, ⟨yk, yd⟩⟩], ⟨dk, dd⟩⟩) (by rw [h1]; simp) ?_ ?_ ?_ ?_ ?_)
            · rw [wrap_ok (by omega) (by omega)]; simp [hj]
            · rw [hr, e2, e3, e4, e5]
            · rw [e2]; omega
            · have h8 := addF_len ⟨IntKind.u32.wrap (IntKind.u64.wrap nr), IntKind.u32.wrap (IntKind.u64.wrap nr), ls ++ [⟨yc, ⟨yk, yd⟩⟩], ⟨dk, dd⟩⟩ (addF out ⟨IntKind.u32.wrap f, IntKind.u32.wrap (IntKind.u64.wrap (IntKind.u64.wrap nr - 1)), [], ⟨dk, dd⟩⟩)
              simp only [List.length_append, List.length_cons, List.length_nil]
              omega
            · rw [e3]; exact addF_good hlo hgg
          · have a2 : decide (f < IntKind.u64.wrap nr) = false := by assumption
            have b2 : ¬ f < nr := by have h := of_decide_eq_false a2; rw [e1] at h; exact h
            rw [refF, if_neg b2, hled2] at hr
            refine rE (ih (done ++ [⟨nr, ls ++ [⟨yc, ⟨yk, yd⟩⟩]⟩]) _ _ (addF out ⟨IntKind.u32.wrap (IntKind.u64.wrap nr), IntKind.u32.wrap (IntKind.u64.wrap nr), ls ++ [⟨yc, ⟨yk, yd⟩⟩], ⟨dk, dd⟩⟩) (by rw [h1]; simp) ?_ ?_ ?_ ?_ ?_)
            · rw [wrap_ok (by omega) (by omega)]; simp [hj]
            · rw [hr, e2, e3]
            · rw [e2]; omega
            · have h8 := addF_len ⟨IntKind.u32.wrap (IntKind.u64.wrap nr), IntKind.u32.wrap (IntKind.u64.wrap nr), ls ++ [⟨yc, ⟨yk, yd⟩⟩], ⟨dk, dd⟩⟩ out
              simp only [List.length_append, List.length_cons, List.length_nil]
              omega
            · rw [e3]; exact addF_good hlo hg
end Go.Proofs.Ytceccgnpkelpkaa
