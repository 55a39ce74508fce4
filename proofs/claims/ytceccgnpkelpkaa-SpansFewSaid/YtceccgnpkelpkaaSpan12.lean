/- A part of a proof: functions of the program, walked over the abstract machine. -/
import Derived.Test.YtceccgnpkelpkaaSpan11
set_option linter.unusedVariables false
set_option linter.unusedSimpArgs false
namespace Go.Proofs.Ytceccgnpkelpkaa
open Go Go.Am Go.Proofs
attribute [local irreducible] W WL DL WO RoundEnd
set_option maxRecDepth 10000
set_option maxHeartbeats 4000000
theorem cntF_good : ∀ (l : List (List Half)) (n : Int), 0 ≤ n → cntF l n ≤ 120 → n + l.length ≤ 120 ∧ ∀ c ∈ l, c.length ≤ 120
  | [], n, _, h => ⟨by simpa [cntF] using h, by simp⟩
  | c :: r, n, h0, h => by
    rw [cntF] at h
    split at h
    · obtain ⟨h1, h2⟩ := cntF_good r _ (by omega) h
      refine ⟨by simp only [List.length_cons]; omega, fun x hx => ?_⟩
      rcases List.mem_cons.1 hx with rfl | hx
      · omega
      · exact h2 x hx
    · omega
theorem few23_good : ∀ (l : List Chn) (n : Int), 0 ≤ n → few23F l n = true → n + l.length ≤ 80 ∧ ∀ c ∈ l, c.steps.length ≤ 80 ∧ ∀ s ∈ c.steps, few21F s.clauses = true
  | [], n, _, h => ⟨by simpa [few23F] using h, by simp⟩
  | c :: r, n, h0, h => by
    rw [few23F] at h
    split at h
    · split at h
      · rw [Bool.and_eq_true, List.all_eq_true] at h
        obtain ⟨h1, h2⟩ := few23_good r _ (by omega) h.2
        refine ⟨by simp only [List.length_cons]; omega, fun x hx => ?_⟩
        rcases List.mem_cons.1 hx with rfl | hx
        · exact ⟨by omega, h.1⟩
        · exact h2 x hx
      · obtain ⟨h1, h2⟩ := few23_good r _ (by omega) h
        omega
    · simp only [decide_eq_true_eq] at h; omega
theorem few_fine {l : List Chn} (hb : ∀ c ∈ l, c.big) (h : few23F l 0 = true) : l.length ≤ 80 ∧ ∀ c ∈ l, c.fine := by
  obtain ⟨h1, h2⟩ := few23_good l 0 (by omega) h
  refine ⟨by omega, fun c hc => ⟨⟨by have := (h2 c hc).1; omega, fun s hs => ?_⟩, (hb c hc).1⟩⟩
  have h3 := (h2 c hc).2 s hs
  obtain ⟨h4, h5⟩ := cntF_good _ _ (by omega) (of_decide_eq_true h3)
  exact ⟨by omega, fun x hx => by have := h5 x hx; omega⟩
theorem ofF_len (d : Act) : ∀ (l : List Chn) (f : Int) (out : List Span), (ofF d l f out).length ≤ out.length + 2 * l.length + 1
  | [], f, out => by
    simp only [ofF]
    split
    · have := addF_len ⟨f, 4294967295, [], d⟩ out; simp only [List.length_nil]; omega
    · simp
  | c :: r, f, out => by
    simp only [ofF]
    split
    · simp
    · have := ofF_len d r (c.nr + 1) (addF (if f < c.nr then addF out ⟨f, c.nr - 1, [], d⟩ else out) (c.led d))
      have h2 := addF_len (c.led d) (if f < c.nr then addF out ⟨f, c.nr - 1, [], d⟩ else out)
      have h3 := addF_len ⟨f, c.nr - 1, [], d⟩ out
      simp only [List.length_cons]
      by_cases hf : f < c.nr
      · simp only [if_pos hf] at this h2 ⊢; omega
      · simp only [if_neg hf] at this h2 ⊢; omega
theorem ofF_good (d : Act) : ∀ (l : List Chn) (f : Int) (out : List Span), (∀ c ∈ l, c.fine) → (∀ y ∈ out, good y.steps) → ∀ y ∈ ofF d l f out, good y.steps
  | [], f, out, _, hg => by
    simp only [ofF]
    split
    · exact addF_good good_nil hg
    · exact hg
  | c :: r, f, out, hc, hg => by
    simp only [ofF]
    split
    · simp
    · refine ofF_good d r _ _ (fun x hx => hc x (by simp [hx])) (addF_good (led_good d (hc c (by simp)).1) ?_)
      split
      · exact addF_good good_nil hg
      · exact hg
theorem alive23 : Comp Try.prog 12 [] (bool true) := by
  have c1 := ofR [] ⟨6, 0⟩ (by simp) (by simp)
  have e : ofF ⟨6, 0⟩ [] 0 [] = [⟨0, 4294967295, [], ⟨6, 0⟩⟩] := by simp [ofF, addF]
  rw [e] at c1
  have c2 := findR 77 [⟨0, 4294967295, [], ⟨6, 0⟩⟩] (by simp)
  have e2 : ixF (Span.has 77) [⟨0, 4294967295, [], ⟨6, 0⟩⟩] 0 = 0 := by simp [ixF, Span.has]
  rw [e2] at c2
  have c3 := findR 0 [] (by simp)
  have e3 : ixF (Span.has 0) [] 0 = -1 := rfl
  rw [e3] at c3
  refine Spec.body (C := cx [] 23) fits (fn := Try.f12) Try.func12 rfl (by decide) (by decide) (gI ?_)
  repeat' (first | ((first | refine runC ?_ | refine runC0 ?_ | refine runO ?_ | refine runR ?_); (conv => whnf); first | (refine ⟨fun hb => ?_, fun hb => ?_⟩ <;> try exact noWay) | refine oA ?_ | refine oB ?_ | refine oC ?_ | refine oR ?_ | refine fR ?_ | refine fRk ?_ | refine oF ?_) | refine sC (c1) ?_ | refine sC (c2) ?_ | refine sC (c3) ?_ | refine sSA ?_ | refine sL ?_ | refine sQ ?_ | refine sX ?_ | refine sXa ?_ | refine sXs ?_ | refine sK ?_ | refine sKa ?_ | refine sLk ?_ | refine sUp ?_ | refine sDel ?_ | refine sSt ?_ | refine sLU ?_ | refine sXw ?_ | refine sLe ?_ | refine sSe ?_ | refine sM ?_ | refine sA ?_ | refine sA0 ?_ | refine sA1 ?_ | refine sMk ?_ | refine sV ?_ | refine sW ?_ | refine tC (c1) ?_ | refine tC (c2) ?_ | refine tC (c3) ?_ | refine tSA ?_ | refine tL ?_ | refine tQ ?_ | refine tX ?_ | refine tXs ?_ | refine tK ?_ | refine tKa ?_ | refine tLk ?_ | refine tUp ?_ | refine tA ?_ | refine tA0 ?_ | refine tSt ?_ | refine tLU ?_ | refine tXw ?_ | refine tLe ?_ | refine tSe ?_ | refine tM ?_ | refine tN ?_ | refine tV ?_ | refine tW ?_ | fail)
  all_goals exact ⟨rfl, rfl⟩
theorem tell23 (l : List Chn) (d : Act) (n : Int) (hl : l.length * 32 ≤ 2 ^ 47) (hb : ∀ c ∈ l, c.big) : Comp Try.prog 4 [lst Chn.row l, .agg (d.row.map .d), int .u32 n] (bool true) := by
  have c0 := alive23
  have c1 := few23R l (by omega) hb
  cases hf : few23F l 0 with
  | false =>
    rw [hf] at c1
    obtain ⟨dk, dd⟩ := d
    refine Spec.body (C := cx [] 38) fits (fn := Try.f4) Try.func4 rfl (by decide) (by decide) (gI ?_)
    repeat' (first | ((first | refine runC ?_ | refine runC0 ?_ | refine runO ?_ | refine runR ?_); (conv => whnf); first | (refine ⟨fun hb => ?_, fun hb => ?_⟩ <;> try exact noWay) | refine oA ?_ | refine oB ?_ | refine oC ?_ | refine oR ?_ | refine fR ?_ | refine fRk ?_ | refine oF ?_) | refine sC (c0) ?_ | refine sC (c1) ?_ | refine sSA ?_ | refine sL ?_ | refine sQ ?_ | refine sX ?_ | refine sXa ?_ | refine sXs ?_ | refine sK ?_ | refine sKa ?_ | refine sLk ?_ | refine sUp ?_ | refine sDel ?_ | refine sSt ?_ | refine sLU ?_ | refine sXw ?_ | refine sLe ?_ | refine sSe ?_ | refine sM ?_ | refine sA ?_ | refine sA0 ?_ | refine sA1 ?_ | refine sMk ?_ | refine sV ?_ | refine sW ?_ | refine tC (c0) ?_ | refine tC (c1) ?_ | refine tSA ?_ | refine tL ?_ | refine tQ ?_ | refine tX ?_ | refine tXs ?_ | refine tK ?_ | refine tKa ?_ | refine tLk ?_ | refine tUp ?_ | refine tA ?_ | refine tA0 ?_ | refine tSt ?_ | refine tLU ?_ | refine tXw ?_ | refine tLe ?_ | refine tSe ?_ | refine tM ?_ | refine tN ?_ | refine tV ?_ | refine tW ?_ | fail)
    exact ⟨rfl, rfl⟩
  | true =>
    rw [hf] at c1
    obtain ⟨hn, hfi⟩ := few_fine hb hf
    have hlen := ofF_len d l 0 []
    have hgo := ofF_good d l 0 [] hfi (by simp)
    have c2 := ofR l d (by omega) hfi
    have c3 := spansR l d (by omega) hfi
    generalize ofF d l 0 [] = x at *
    simp only [List.length_nil] at hlen
    have c4 := sameSpansR x (by omega) hgo
    have c5 := findR n x (by omega)
    have c6 := findRefR n x (by omega)
    generalize ixF (Span.has n) x 0 = i at *
    have b1 : (i == i) = true := by simp
    obtain ⟨dk, dd⟩ := d
    refine Spec.body (C := cx [] 38) fits (fn := Try.f4) Try.func4 rfl (by decide) (by decide) (gI ?_)
    repeat' (first | ((first | refine runC ?_ | refine runC0 ?_ | refine runO ?_ | refine runR ?_); (conv => whnf); first | (refine ⟨fun hb => ?_, fun hb => ?_⟩ <;> try exact noWay) | refine oA ?_ | refine oB ?_ | refine oC ?_ | refine oR ?_ | refine fR ?_ | refine fRk ?_ | refine oF ?_) | refine sC (c0) ?_ | refine sC (c1) ?_ | refine sC (c2) ?_ | refine sC (c3) ?_ | refine sC (c4) ?_ | refine sC (c5) ?_ | refine sC (c6) ?_ | refine sSA ?_ | refine sL ?_ | refine sQ ?_ | refine sX ?_ | refine sXa ?_ | refine sXs ?_ | refine sK ?_ | refine sKa ?_ | refine sLk ?_ | refine sUp ?_ | refine sDel ?_ | refine sSt ?_ | refine sLU ?_ | refine sXw ?_ | refine sLe ?_ | refine sSe ?_ | refine sM ?_ | refine sA ?_ | refine sA0 ?_ | refine sA1 ?_ | refine sMk ?_ | refine sV ?_ | refine sW ?_ | refine tC (c0) ?_ | refine tC (c1) ?_ | refine tC (c2) ?_ | refine tC (c3) ?_ | refine tC (c4) ?_ | refine tC (c5) ?_ | refine tC (c6) ?_ | refine tSA ?_ | refine tL ?_ | refine tQ ?_ | refine tX ?_ | refine tXs ?_ | refine tK ?_ | refine tKa ?_ | refine tLk ?_ | refine tUp ?_ | refine tA ?_ | refine tA0 ?_ | refine tSt ?_ | refine tLU ?_ | refine tXw ?_ | refine tLe ?_ | refine tSe ?_ | refine tM ?_ | refine tN ?_ | refine tV ?_ | refine tW ?_ | fail)
    all_goals first | exact ⟨rfl, rfl⟩ | trace_state
end Go.Proofs.Ytceccgnpkelpkaa
