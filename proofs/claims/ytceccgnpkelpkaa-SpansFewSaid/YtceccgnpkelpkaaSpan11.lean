/- A part of a proof: functions of the program, walked over the abstract machine. -/
import Derived.Test.YtceccgnpkelpkaaSpan10
set_option linter.unusedVariables false
set_option linter.unusedSimpArgs false
namespace Go.Proofs.Ytceccgnpkelpkaa
open Go Go.Am Go.Proofs
attribute [local irreducible] W WL DL WO RoundEnd
set_option maxRecDepth 10000
set_option maxHeartbeats 4000000
theorem incr_of (d : Act) : ∀ (l : List Chn) (f : Int) (out : List Span), incr (f - 1) l = true → ofF d l f out = refF d l f out
  | [], f, out, _ => by
    simp only [ofF, refF]
    by_cases h : f ≤ 4294967295
    · rw [if_pos h, if_pos (by omega)]
    · rw [if_neg h, if_neg (by omega)]
  | c :: r, f, out, h => by
    simp only [incr] at h
    by_cases hc : c.nr ≤ f - 1
    · rw [if_pos hc] at h; simp at h
    rw [if_neg hc] at h
    simp only [ofF, refF]
    rw [if_neg (by omega)]
    exact incr_of d r _ _ (by rw [show c.nr + 1 - 1 = c.nr by omega]; exact h)
theorem incr_bad (d : Act) : ∀ (l : List Chn) (f : Int) (out : List Span), incr (f - 1) l = false → ofF d l f out = []
  | [], f, out, h => by simp [incr] at h
  | c :: r, f, out, h => by
    simp only [incr] at h
    simp only [ofF]
    by_cases hc : c.nr ≤ f - 1
    · rw [if_pos (by omega)]
    rw [if_neg hc] at h
    rw [if_neg (by omega)]
    exact incr_bad d r _ _ (by rw [show c.nr + 1 - 1 = c.nr by omega]; exact h)
theorem incrs_eq {l : List Chn} (h : ∀ c ∈ l, c.fine) : incrs l = incr (0 - 1) l := by
  rcases l with _ | ⟨c, r⟩
  · rfl
  · have := (h c (by simp)).2.1
    simp only [incrs, incr]
    rw [if_neg (by omega)]
theorem spansR (l : List Chn) (d : Act) (hl : l.length ≤ 100) (hok : ∀ c ∈ l, c.fine) : Comp Try.prog 15 [lst Chn.row l, .agg (d.row.map .d)] (lst Span.row (ofF d l 0 [])) := by
  have he := incrs_eq hok
  cases hi : incrs l with
  | true =>
    rw [incr_of d l 0 [] (by rw [← he]; exact hi)]
    exact spansLoop l d hl hok hi
  | false =>
    rw [incr_bad d l 0 [] (by rw [← he]; exact hi)]
    exact spansBad l d hl hok hi
def cntF : List (List Half) → Int → Int
  | [], n => n
  | c :: r, n => if n < 1000 then cntF r (n + 1 + c.length) else n
def few21F (l : List (List Half)) : Bool := decide (cntF l 0 ≤ 120)
theorem few21R (l : List (List Half)) (hl : l.length < 2 ^ 60) (hc : ∀ c ∈ l, c.length < 2 ^ 60) : Comp Try.prog 36 [lst crow l] (bool (few21F l)) := by
  generalize hfb : few21F l = fb
  refine Spec.body (C := cx [] 25) fits (fn := Try.f36) Try.func36 rfl (by decide) (by decide) (gI ?_)
  repeat' (first | ((first | refine runC ?_ | refine runC0 ?_ | refine runO ?_ | refine runR ?_); (conv => whnf); first | (refine ⟨fun hb => ?_, fun hb => ?_⟩ <;> try exact noWay) | refine oA ?_ | refine oB ?_ | refine oC ?_ | refine oR ?_ | refine fR ?_ | refine fRk ?_ | refine oF ?_) | refine sSA ?_ | refine sL ?_ | refine sQ ?_ | refine sX ?_ | refine sXa ?_ | refine sXs ?_ | refine sK ?_ | refine sKa ?_ | refine sLk ?_ | refine sUp ?_ | refine sDel ?_ | refine sSt ?_ | refine sLU ?_ | refine sXw ?_ | refine sLe ?_ | refine sSe ?_ | refine sM ?_ | refine sA ?_ | refine sA0 ?_ | refine sA1 ?_ | refine sMk ?_ | refine sV ?_ | refine sW ?_ | fail)
  refine wLoop [0, 3, 4] 0 (l.length + 1) ?_
  refine (fun key => key l [] _ 0 rfl rfl hfb.symm ⟨by omega, by omega⟩ :
    (∀ (rest done : List (List Half)) (j n : Int), l = done ++ rest → j = done.length → fb = decide (cntF rest n ≤ 120) → 0 ≤ n ∧ n < 2 ^ 61 →
    WR2 _ _ _ _ _ (rest.length + 1) [(0, lst crow l), (3, int .i64 n), (4, int .i64 j)] []) → _) ?_
  intro rest
  induction rest with
  | nil =>
    intro done j n h1 hj hr hn
    have hlen : l.length = done.length := by rw [h1]; simp
    have hr' : fb = decide (n ≤ 120) := hr
    refine wR (gI ?_)
    repeat' (first | ((first | refine runC ?_ | refine runC0 ?_ | refine runO ?_ | refine runR ?_); (conv => whnf); first | (refine ⟨fun hb => ?_, fun hb => ?_⟩ <;> try exact noWay) | refine oA ?_ | refine oB ?_ | refine oC ?_ | refine oR ?_ | refine fR ?_ | refine fRk ?_ | refine oF ?_) | refine sSA ?_ | refine sL ?_ | refine sQ ?_ | refine sX ?_ | refine sXa ?_ | refine sXs ?_ | refine sK ?_ | refine sKa ?_ | refine sLk ?_ | refine sUp ?_ | refine sDel ?_ | refine sSt ?_ | refine sLU ?_ | refine sXw ?_ | refine sLe ?_ | refine sSe ?_ | refine sM ?_ | refine sA ?_ | refine sA0 ?_ | refine sA1 ?_ | refine sMk ?_ | refine sV ?_ | refine sW ?_ | fail)
    all_goals exact ⟨by rw [hr', hb]; rfl, rfl⟩
  | cons x rest ih =>
    intro done j n h1 hj hr hn
    have hlen : l.length = done.length + (rest.length + 1) := by rw [h1]; simp
    have hx := hc x (by rw [h1]; simp)
    refine wR (gI ?_)
    repeat' (first | ((first | refine runC ?_ | refine runC0 ?_ | refine runO ?_ | refine runR ?_); (conv => whnf); first | (refine ⟨fun hb => ?_, fun hb => ?_⟩ <;> try exact noWay) | refine oA ?_ | refine oB ?_ | refine oC ?_ | refine oR ?_ | refine fR ?_ | refine fRk ?_ | refine oF ?_) | refine sSA ?_ | refine sL ?_ | refine sQ ?_ | refine sX ?_ | refine sXa ?_ | refine sXs ?_ | refine sK ?_ | refine sKa ?_ | refine sLk ?_ | refine sUp ?_ | refine sDel ?_ | refine sSt ?_ | refine sLU ?_ | refine sXw ?_ | refine sLe ?_ | refine sSe ?_ | refine sM ?_ | refine sA ?_ | refine sA0 ?_ | refine sA1 ?_ | refine sMk ?_ | refine sV ?_ | refine sW ?_ | fail)
    · have hb2 : n < 1000 := of_decide_eq_true hb
      rw [cntF, if_pos hb2] at hr
      have e1 : IntKind.wrap .i64 (IntKind.wrap .i64 (n + 1) + ((x.map Half.row).length : Int)) = n + 1 + x.length := by
        rw [List.length_map, wrap_ok (n := n + 1) (by omega) (by omega), wrap_ok (by omega) (by omega)]
      refine rE (ih (done ++ [x]) _ _ (by rw [h1]; simp) ?_ ?_ ?_)
      · rw [wrap_ok (by omega) (by omega)]; simp [hj]
      · rw [hr, e1]
      · rw [e1]; omega
    all_goals
      have a1 : decide (n < 1000) = false := by assumption
      have hb2 : ¬ n < 1000 := of_decide_eq_false a1
      rw [cntF, if_neg hb2] at hr
      exact ⟨by rw [hr, hb]; rfl, rfl⟩
def few23F : List Chn → Int → Bool
  | [], n => decide (n ≤ 80)
  | c :: r, n => if n < 1000 then (if n + 1 + c.steps.length < 1000 then ((c.steps.all fun s => few21F s.clauses) && few23F r (n + 1 + c.steps.length)) else few23F r (n + 1 + c.steps.length)) else decide (n ≤ 80)
def Stp.big (s : Stp) : Prop := s.clauses.length < 2 ^ 60 ∧ ∀ c ∈ s.clauses, c.length < 2 ^ 60
def Chn.big (c : Chn) : Prop := (0 ≤ c.nr ∧ c.nr < 4294967296) ∧ c.steps.length < 2 ^ 60 ∧ ∀ s ∈ c.steps, s.big
theorem few23R (l : List Chn) (hl : l.length < 2 ^ 60) (hc : ∀ c ∈ l, c.big) : Comp Try.prog 13 [lst Chn.row l] (bool (few23F l 0)) := by
  generalize hfb : few23F l 0 = fb
  refine Spec.body (C := cx [] 52) fits (fn := Try.f13) Try.func13 rfl (by decide) (by decide) (gI ?_)
  repeat' (first | ((first | refine runC ?_ | refine runC0 ?_ | refine runO ?_ | refine runR ?_); (conv => whnf); first | (refine ⟨fun hb => ?_, fun hb => ?_⟩ <;> try exact noWay) | refine oA ?_ | refine oB ?_ | refine oC ?_ | refine oR ?_ | refine fR ?_ | refine fRk ?_ | refine oF ?_) | refine sSA ?_ | refine sL ?_ | refine sQ ?_ | refine sX ?_ | refine sXa ?_ | refine sXs ?_ | refine sK ?_ | refine sKa ?_ | refine sLk ?_ | refine sUp ?_ | refine sDel ?_ | refine sSt ?_ | refine sLU ?_ | refine sXw ?_ | refine sLe ?_ | refine sSe ?_ | refine sM ?_ | refine sA ?_ | refine sA0 ?_ | refine sA1 ?_ | refine sMk ?_ | refine sV ?_ | refine sW ?_ | fail)
  refine wLoop [0, 3, 4] 0 (l.length + 1) ?_
  refine (fun key => key l [] _ 0 rfl rfl hfb.symm ⟨by omega, by omega⟩ :
    (∀ (rest done : List Chn) (j n : Int), l = done ++ rest → j = done.length → fb = few23F rest n → 0 ≤ n ∧ n < 2 ^ 61 →
    WR2 _ _ _ _ _ (rest.length + 1) [(0, lst Chn.row l), (3, int .i64 n), (4, int .i64 j)] []) → _) ?_
  intro rest
  induction rest with
  | nil =>
    intro done j n h1 hj hr hn
    have hlen : l.length = done.length := by rw [h1]; simp
    have hr' : fb = decide (n ≤ 80) := hr
    refine wR (gI ?_)
    repeat' (first | ((first | refine runC ?_ | refine runC0 ?_ | refine runO ?_ | refine runR ?_); (conv => whnf); first | (refine ⟨fun hb => ?_, fun hb => ?_⟩ <;> try exact noWay) | refine oA ?_ | refine oB ?_ | refine oC ?_ | refine oR ?_ | refine fR ?_ | refine fRk ?_ | refine oF ?_) | refine sSA ?_ | refine sL ?_ | refine sQ ?_ | refine sX ?_ | refine sXa ?_ | refine sXs ?_ | refine sK ?_ | refine sKa ?_ | refine sLk ?_ | refine sUp ?_ | refine sDel ?_ | refine sSt ?_ | refine sLU ?_ | refine sXw ?_ | refine sLe ?_ | refine sSe ?_ | refine sM ?_ | refine sA ?_ | refine sA0 ?_ | refine sA1 ?_ | refine sMk ?_ | refine sV ?_ | refine sW ?_ | fail)
    all_goals exact ⟨by rw [hr', hb]; rfl, rfl⟩
  | cons x rest ih =>
    intro done j n h1 hj hr hn
    have hlen : l.length = done.length + (rest.length + 1) := by rw [h1]; simp
    have hx := hc x (by rw [h1]; simp)
    have hx1 := hx.2.1
    obtain ⟨nr, st⟩ := x
    have hx2 : st.length < 2 ^ 60 := hx1
    refine wR (gI ?_)
    repeat' (first | ((first | refine runC ?_ | refine runC0 ?_ | refine runO ?_ | refine runR ?_); (conv => whnf); first | (refine ⟨fun hb => ?_, fun hb => ?_⟩ <;> try exact noWay) | refine oA ?_ | refine oB ?_ | refine oC ?_ | refine oR ?_ | refine fR ?_ | refine fRk ?_ | refine oF ?_) | refine sSA ?_ | refine sL ?_ | refine sQ ?_ | refine sX ?_ | refine sXa ?_ | refine sXs ?_ | refine sK ?_ | refine sKa ?_ | refine sLk ?_ | refine sUp ?_ | refine sDel ?_ | refine sSt ?_ | refine sLU ?_ | refine sXw ?_ | refine sLe ?_ | refine sSe ?_ | refine sM ?_ | refine sA ?_ | refine sA0 ?_ | refine sA1 ?_ | refine sMk ?_ | refine sV ?_ | refine sW ?_ | fail)
    · have hb2 : n < 1000 := of_decide_eq_true hb
      rw [few23F, if_pos hb2] at hr
      have e1 : IntKind.wrap .i64 (IntKind.wrap .i64 (n + 1) + ((st.map Stp.row).length : Int)) = n + 1 + st.length := by
        rw [List.length_map, wrap_ok (n := n + 1) (by omega) (by omega), wrap_ok (by omega) (by omega)]
      have hih := ih (done ++ [⟨nr, st⟩]) (IntKind.wrap .i64 (j + 1)) (IntKind.wrap .i64 (IntKind.wrap .i64 (n + 1) + ((st.map Stp.row).length : Int))) (by rw [h1]; simp) (by rw [wrap_ok (by omega) (by omega)]; simp [hj])
      have gx := at_mid (f := Chn.row) h1 hj
      refine wLoop [0, 3, 4, 5] 0 (st.length + 1) ?_
      by_cases hn2 : n + 1 + (st.length : Int) < 1000
      · have a3 : decide (IntKind.wrap .i64 (IntKind.wrap .i64 (n + 1) + ((st.map Stp.row).length : Int)) < 1000) = true := decide_eq_true (by rw [e1]; exact hn2)
        rw [if_pos hn2] at hr
        refine (fun key => key st [] _ rfl rfl hr :
          (∀ (r2 d2 : List Stp) (i : Int), st = d2 ++ r2 → i = d2.length → fb = ((r2.all fun s => few21F s.clauses) && few23F rest (n + 1 + st.length)) →
          WR2 _ _ _ _ _ (r2.length + 1) [(0, lst Chn.row l), (3, int .i64 (IntKind.wrap .i64 (IntKind.wrap .i64 (n + 1) + ((st.map Stp.row).length : Int)))), (4, int .i64 j), (5, int .i64 i)] []) → _) ?_
        intro r2
        induction r2 with
        | nil =>
          intro d2 i k1 hi hr2
          have hlen2 : st.length = d2.length := by rw [k1]; simp
          refine wR (gI ?_)
          repeat' (first | ((first | refine runC ?_ | refine runC0 ?_ | refine runO ?_ | refine runR ?_); (conv => whnf); first | (refine ⟨fun hb => ?_, fun hb => ?_⟩ <;> try exact noWay) | refine oA ?_ | refine oB ?_ | refine oC ?_ | refine oR ?_ | refine fR ?_ | refine fRk ?_ | refine oF ?_) | refine sSA ?_ | refine sL ?_ | refine sQ ?_ | refine sX ?_ | refine sXa ?_ | refine sXs ?_ | refine sK ?_ | refine sKa ?_ | refine sLk ?_ | refine sUp ?_ | refine sDel ?_ | refine sSt ?_ | refine sLU ?_ | refine sXw ?_ | refine sLe ?_ | refine sSe ?_ | refine sM ?_ | refine sA ?_ | refine sA0 ?_ | refine sA1 ?_ | refine sMk ?_ | refine sV ?_ | refine sW ?_ | fail)
          refine rE (hih ?_ ?_)
          · rw [e1, hr2]; rfl
          · rw [e1]; omega
        | cons s r2 ih2 =>
          intro d2 i k1 hi hr2
          have hlen2 : st.length = d2.length + (r2.length + 1) := by rw [k1]; simp
          have hs := hx.2.2 s (by simp [k1])
          have hf := few21R s.clauses hs.1 hs.2
          rw [List.all_cons] at hr2
          obtain ⟨cs, ⟨ak, ad⟩⟩ := s
          refine wR (gI ?_)
          repeat' (first | ((first | refine runC ?_ | refine runC0 ?_ | refine runO ?_ | refine runR ?_); (conv => whnf); first | (refine ⟨fun hb => ?_, fun hb => ?_⟩ <;> try exact noWay) | refine oA ?_ | refine oB ?_ | refine oC ?_ | refine oR ?_ | refine fR ?_ | refine fRk ?_ | refine oF ?_) | refine sB (hf) (fun h5 => ?_) fun h5 => ?_ | refine sSA ?_ | refine sL ?_ | refine sQ ?_ | refine sX ?_ | refine sXa ?_ | refine sXs ?_ | refine sK ?_ | refine sKa ?_ | refine sLk ?_ | refine sUp ?_ | refine sDel ?_ | refine sSt ?_ | refine sLU ?_ | refine sXw ?_ | refine sLe ?_ | refine sSe ?_ | refine sM ?_ | refine sA ?_ | refine sA0 ?_ | refine sA1 ?_ | refine sMk ?_ | refine sV ?_ | refine sW ?_ | fail)
          · have h6 : few21F cs = true := h5
            refine rE (ih2 (d2 ++ [⟨cs, ⟨ak, ad⟩⟩]) _ (by rw [k1]; simp) ?_ ?_)
            · rw [wrap_ok (by omega) (by omega)]; simp [hi]
            · rw [hr2, h6]; rfl
          · have h6 : few21F cs = false := h5
            exact ⟨by rw [hr2, h6]; rfl, rfl⟩
      · have a3 : decide (IntKind.wrap .i64 (IntKind.wrap .i64 (n + 1) + ((st.map Stp.row).length : Int)) < 1000) = false := decide_eq_false (by rw [e1]; exact hn2)
        rw [if_neg hn2] at hr
        refine WR2.mono (n := 1) (wR (gI ?_)) (by omega)
        repeat' (first | ((first | refine runC ?_ | refine runC0 ?_ | refine runO ?_ | refine runR ?_); (conv => whnf); first | (refine ⟨fun hb => ?_, fun hb => ?_⟩ <;> try exact noWay) | refine oA ?_ | refine oB ?_ | refine oC ?_ | refine oR ?_ | refine fR ?_ | refine fRk ?_ | refine oF ?_) | refine sSA ?_ | refine sL ?_ | refine sQ ?_ | refine sX ?_ | refine sXa ?_ | refine sXs ?_ | refine sK ?_ | refine sKa ?_ | refine sLk ?_ | refine sUp ?_ | refine sDel ?_ | refine sSt ?_ | refine sLU ?_ | refine sXw ?_ | refine sLe ?_ | refine sSe ?_ | refine sM ?_ | refine sA ?_ | refine sA0 ?_ | refine sA1 ?_ | refine sMk ?_ | refine sV ?_ | refine sW ?_ | fail)
        all_goals
          refine rE (hih (by rw [e1]; exact hr) ?_)
          rw [e1]; omega
    all_goals
      have a1 : decide (n < 1000) = false := by assumption
      have hb2 : ¬ n < 1000 := of_decide_eq_false a1
      rw [few23F, if_neg hb2] at hr
      exact ⟨by rw [hr, hb]; rfl, rfl⟩
end Go.Proofs.Ytceccgnpkelpkaa
