/- A part of a proof: functions of the program, walked over the abstract machine. -/
import Derived.Test.YtceccgnpkelpkaaSpan16
set_option linter.unusedVariables false
set_option linter.unusedSimpArgs false
namespace Go.Proofs.Ytceccgnpkelpkaa
open Go Go.Am Go.Proofs
attribute [local irreducible] W WL DL WO RoundEnd
set_option maxRecDepth 10000
set_option maxHeartbeats 4000000
/-- .. of an array that may still be written -/
theorem ofRr (ep m : Nat) (l : List Chn) (d : Act) (hm : m = (l.map Chn.row).length) (hl : l.length ≤ 100) (hok : ∀ c ∈ l, c.fine) : Am.Spec Try.prog 14 [.one (.arr 0 ep m), .agg (d.row.map .d)] [.arr ep true 2 (l.map Chn.row)]
    (fun v s => v = lst Span.row (ofF d l 0 []) ∧ s = [.arr ep true 2 (l.map Chn.row)]) := by
  subst hm
  generalize hfb : ofF d l 0 [] = fb
  obtain ⟨dk, dd⟩ := d
  refine Spec.body (C := cx [(5, true)] 51) fits (fn := Try.f14) Try.func14 rfl (by decide) (by decide) (gZ 2 (gI ?_))
  repeat' (first | ((first | refine runC ?_ | refine runC0 ?_ | refine runO ?_ | refine runR ?_); (conv => whnf); first | (refine ⟨fun hb => ?_, fun hb => ?_⟩ <;> try exact noWay) | refine oA ?_ | refine oB ?_ | refine oC ?_ | refine oR ?_ | refine fR ?_ | refine fRk ?_ | refine oF ?_) | refine sSA ?_ | refine sL ?_ | refine sQ ?_ | refine sX ?_ | refine sXa ?_ | refine sXs ?_ | refine sK ?_ | refine sKa ?_ | refine sLk ?_ | refine sUp ?_ | refine sDel ?_ | refine sSt ?_ | refine sLU ?_ | refine sXw ?_ | refine sLe ?_ | refine sSe ?_ | refine sM ?_ | refine sA ?_ | refine sA0 ?_ | refine sA1 ?_ | refine sMk ?_ | refine sV ?_ | refine sW ?_ | fail)
  refine wLoop [3, 5, 6, 10, 11, 12] 3 (l.length + 1) ?_
  refine (fun key => key l [] _ 0 [] rfl rfl hfb.symm ⟨by omega, by omega⟩ (by simp) (by simp) :
    (∀ (rest done : List Chn) (j f : Int) (out : List Span), l = done ++ rest → j = done.length → fb = ofF ⟨dk, dd⟩ rest f out → 0 ≤ f ∧ f ≤ 4294967296 → out.length ≤ 2 * done.length → (∀ y ∈ out, good y.steps) →
    WR2 _ _ _ _ _ (rest.length + 1) [(3, .one (.ptr 1 0)), (5, .one (.arr 2 0 (out.map Span.row).length)), (6, int .i64 f), (10, .one (.arr 0 ep (l.map Chn.row).length)), (11, int .i64 (l.map Chn.row).length), (12, int .i64 j)] [.arr ep true 2 (l.map Chn.row), .var [.d (.sc (.int .i64 dk)), .d (.sc (.int .i64 dd))], .arr 0 true 5 (out.map Span.row)]) → _) ?_
  intro rest
  induction rest with
  | nil =>
    intro done j f out h1 hj hr hf ho hg
    have hlen : l.length = done.length := by rw [h1]; simp
    have hc := addR 0 out ⟨IntKind.u32.wrap f, 4294967295, [], ⟨dk, dd⟩⟩ (by omega) hg
    refine wR (gI ?_)
    repeat' (first | ((first | refine runC ?_ | refine runC0 ?_ | refine runO ?_ | refine runR ?_); (conv => whnf); first | (refine ⟨fun hb => ?_, fun hb => ?_⟩ <;> try exact noWay) | refine oA ?_ | refine oB ?_ | refine oC ?_ | refine oR ?_ | refine fR ?_ | refine fRk ?_ | refine oF ?_) | refine fun k => WL.cr' [2] _ _ hc rfl rfl rfl rfl rfl ⟨rfl, trivial⟩ rfl rfl rfl rfl (oW ?_ _) | refine sSA ?_ | refine sL ?_ | refine sQ ?_ | refine sX ?_ | refine sXa ?_ | refine sXs ?_ | refine sK ?_ | refine sKa ?_ | refine sLk ?_ | refine sUp ?_ | refine sDel ?_ | refine sSt ?_ | refine sLU ?_ | refine sXw ?_ | refine sLe ?_ | refine sSe ?_ | refine sM ?_ | refine sA ?_ | refine sA0 ?_ | refine sA1 ?_ | refine sMk ?_ | refine sV ?_ | refine sW ?_ | fail)
    · have hb2 : f ≤ 4294967295 := by simpa using hb
      rw [ofF, if_pos hb2] at hr
      exact ⟨by rw [hr, wrap_u32 (by omega) (by omega)]; rfl, rfl⟩
    · have hb2 : ¬ f ≤ 4294967295 := by simpa using hb
      rw [ofF, if_neg hb2] at hr
      exact ⟨by rw [hr]; rfl, rfl⟩
  | cons c rest ih =>
    intro done j f out h1 hj hr hf ho hg
    have hlen : l.length = done.length + (rest.length + 1) := by rw [h1]; simp
    have hc := hok c (by rw [h1]; simp)
    have hn0 := hc.2.1
    have hn1 := hc.2.2
    have hcl := ledR c ⟨dk, dd⟩ hc.1
    have hgg := addF_good (x := ⟨IntKind.u32.wrap f, IntKind.u32.wrap (c.nr - 1), [], ⟨dk, dd⟩⟩) good_nil hg
    have hlg := addF_len ⟨IntKind.u32.wrap f, IntKind.u32.wrap (c.nr - 1), [], ⟨dk, dd⟩⟩ out
    have c1 := addR 0 out ⟨IntKind.u32.wrap f, IntKind.u32.wrap (c.nr - 1), [], ⟨dk, dd⟩⟩ (by omega) hg
    have c2 := addR 0 (addF out ⟨IntKind.u32.wrap f, IntKind.u32.wrap (c.nr - 1), [], ⟨dk, dd⟩⟩) (c.led ⟨dk, dd⟩) (by omega) hgg
    have c3 := addR 0 out (c.led ⟨dk, dd⟩) (by omega) hg
    have e1 : IntKind.i64.wrap c.nr = c.nr := wrap_ok (by omega) (by omega)
    have e2 : IntKind.i64.wrap (c.nr + 1) = c.nr + 1 := wrap_ok (by omega) (by omega)
    obtain ⟨nr, st⟩ := c
    have m0 : 0 ≤ nr := hn0
    have m1 : nr < 4294967296 := hn1
    refine wR (gI ?_)
    repeat' (first | ((first | refine runC ?_ | refine runC0 ?_ | refine runO ?_ | refine runR ?_); (conv => whnf); first | (refine ⟨fun hb => ?_, fun hb => ?_⟩ <;> try exact noWay) | refine oA ?_ | refine oB ?_ | refine oC ?_ | refine oR ?_ | refine fR ?_ | refine fRk ?_ | refine oF ?_) | refine sC (hcl) ?_ | refine fun k => WL.cr' [2] _ _ c1 rfl rfl rfl rfl rfl ⟨rfl, trivial⟩ rfl rfl rfl rfl (oW ?_ _) | refine fun k => WL.cr' [2] _ _ c2 rfl rfl rfl rfl rfl ⟨rfl, trivial⟩ rfl rfl rfl rfl (oW ?_ _) | refine fun k => WL.cr' [2] _ _ c3 rfl rfl rfl rfl rfl ⟨rfl, trivial⟩ rfl rfl rfl rfl (oW ?_ _) | refine sSA ?_ | refine sL ?_ | refine sQ ?_ | refine sX ?_ | refine sXa ?_ | refine sXs ?_ | refine sK ?_ | refine sKa ?_ | refine sLk ?_ | refine sUp ?_ | refine sDel ?_ | refine sSt ?_ | refine sLU ?_ | refine sXw ?_ | refine sLe ?_ | refine sSe ?_ | refine sM ?_ | refine sA ?_ | refine sA0 ?_ | refine sA1 ?_ | refine sMk ?_ | refine sV ?_ | refine sW ?_ | fail)
    · have hb2 : nr < f := by have h := of_decide_eq_true hb; rw [e1] at h; exact h
      rw [ofF, if_pos hb2] at hr
      exact ⟨by rw [hr]; rfl, rfl⟩
    · have a1 : decide (IntKind.i64.wrap nr < f) = false := by assumption
      have a2 : decide (IntKind.i64.wrap nr > f) = true := by assumption
      have b1 : ¬ nr < f := by have h := of_decide_eq_false a1; rw [e1] at h; exact h
      have b2 : f < nr := by have h := of_decide_eq_true a2; rw [e1] at h; exact h
      rw [ofF, if_neg b1, if_pos b2] at hr
      have e3 : IntKind.u32.wrap f = f := wrap_u32 (by omega) (by omega)
      have e4 : IntKind.u32.wrap (nr - 1) = nr - 1 := wrap_u32 (by omega) (by omega)
      have e5 : IntKind.i64.wrap (IntKind.i64.wrap nr + 1) = nr + 1 := by rw [e1]; exact e2
      refine rE (ih (done ++ [⟨nr, st⟩]) _ _ (addF (addF out ⟨IntKind.u32.wrap f, IntKind.u32.wrap (nr - 1), [], ⟨dk, dd⟩⟩) (Chn.led ⟨nr, st⟩ ⟨dk, dd⟩)) (by rw [h1]; simp) ?_ ?_ ?_ ?_ ?_)
      · rw [wrap_ok (by omega) (by omega)]; simp [hj]
      · rw [hr, e3, e4, e5]
      · rw [e5]; omega
      · have h8 := addF_len (Chn.led ⟨nr, st⟩ ⟨dk, dd⟩) (addF out ⟨IntKind.u32.wrap f, IntKind.u32.wrap (nr - 1), [], ⟨dk, dd⟩⟩)
        simp only at hlg
        simp only [List.length_append, List.length_cons, List.length_nil]
        omega
      · exact addF_good (led_good _ hc.1) hgg
    · have a1 : decide (IntKind.i64.wrap nr < f) = false := by assumption
      have a2 : decide (IntKind.i64.wrap nr > f) = false := by assumption
      have b1 : ¬ nr < f := by have h := of_decide_eq_false a1; rw [e1] at h; exact h
      have b2 : ¬ f < nr := by have h := of_decide_eq_false a2; rw [e1] at h; exact h
      rw [ofF, if_neg b1, if_neg b2] at hr
      have e5 : IntKind.i64.wrap (IntKind.i64.wrap nr + 1) = nr + 1 := by rw [e1]; exact e2
      refine rE (ih (done ++ [⟨nr, st⟩]) _ _ (addF out (Chn.led ⟨nr, st⟩ ⟨dk, dd⟩)) (by rw [h1]; simp) ?_ ?_ ?_ ?_ ?_)
      · rw [wrap_ok (by omega) (by omega)]; simp [hj]
      · rw [hr, e5]
      · rw [e5]; omega
      · have h8 := addF_len (Chn.led ⟨nr, st⟩ ⟨dk, dd⟩) out
        simp only [List.length_append, List.length_cons, List.length_nil]
        omega
      · exact addF_good (led_good _ hc.1) hg
end Go.Proofs.Ytceccgnpkelpkaa
