/- The document's reader of tokens: bytes. -/
import Derived.Test.YtcmhpjnafkpofaaDoorSpot2
set_option linter.unusedVariables false
set_option linter.unusedSimpArgs false
namespace Go.Proofs.YtcmhpjnafkpofaaDoor
open Go Go.Am Go.Proofs
attribute [local irreducible] W WL DL WO RoundEnd
set_option maxRecDepth 10000
set_option maxHeartbeats 4000000
set_option linter.unusedVariables false
set_option linter.unusedSimpArgs false
def isLet (c : Int) : Bool := (decide (c ≥ 97) && decide (c ≤ 122)) || ((decide (c ≥ 65) && decide (c ≤ 90)) || (c == 95))
def isDig (c : Int) : Bool := decide (c ≥ 48) && decide (c ≤ 57)
def hexI (c : Int) : Int := bif isDig c then c - 48 else bif decide (c ≥ 97) && decide (c ≤ 102) then c - 97 + 10 else bif decide (c ≥ 65) && decide (c ≤ 70) then c - 65 + 10 else -1
theorem letR [GVals] (c : Int) : Comp Tryd.prog 48 [int .u8 c] (bool (isLet c)) := by
  generalize hfb : isLet c = fb
  unfold isLet at hfb
  refine Spec.body (C := cx [] 21) fits (fn := Tryd.f48) Tryd.func48 rfl (by decide) (by decide) (gI ?_)
  repeat' (first | ((first | refine C_r ?_ | refine O_r ?_); (conv => whnf); first | (refine ⟨fun hb => ?_, fun hb => ?_⟩ <;> try exact no_way) | refine fR ?_) | fail)
  all_goals (refine ⟨?_, rfl⟩; rw [← hfb]; simp only [*, Bool.true_or, Bool.or_true, Bool.false_or, Bool.or_false, Bool.true_and, Bool.and_true, Bool.false_and, Bool.and_false]; rfl)
theorem digR [GVals] (c : Int) : Comp Tryd.prog 49 [int .u8 c] (bool (isDig c)) := by
  generalize hfb : isDig c = fb
  unfold isDig at hfb
  refine Spec.body (C := cx [] 9) fits (fn := Tryd.f49) Tryd.func49 rfl (by decide) (by decide) (gI ?_)
  repeat' (first | ((first | refine C_r ?_ | refine O_r ?_); (conv => whnf); first | (refine ⟨fun hb => ?_, fun hb => ?_⟩ <;> try exact no_way) | refine fR ?_) | fail)
  all_goals (refine ⟨?_, rfl⟩; rw [← hfb]; simp only [*, Bool.true_or, Bool.or_true, Bool.false_or, Bool.or_false, Bool.true_and, Bool.and_true, Bool.false_and, Bool.and_false]; rfl)
theorem wrap_u8' {n : Int} (h0 : 0 ≤ n) (h1 : n < 256) : IntKind.u8.wrap n = n := by
  simp [IntKind.wrap, IntKind.bits, IntKind.signed]; omega
theorem hexR [GVals] (c : Int) (h0 : 0 ≤ c) (h1 : c < 256) : Comp Tryd.prog 62 [int .u8 c] (int .i64 (hexI c)) := by
  have c1 := digR c
  have hdd : isDig c = true → 48 ≤ c ∧ c ≤ 57 := by intro h; simpa [isDig] using h
  generalize hfb : hexI c = fb
  unfold hexI at hfb
  generalize isDig c = dg at *
  refine Spec.body (C := cx [] 31) fits (fn := Tryd.f62) Tryd.func62 rfl (by decide) (by decide) (gI ?_)
  repeat' (first | ((first | refine C_r ?_ | refine O_r ?_); (conv => whnf); first | (refine ⟨fun hb => ?_, fun hb => ?_⟩ <;> try exact no_way) | refine B_o ?_ | refine fR ?_) | refine B_l (c1) (fun hb => ?_) fun hb => ?_ | fail)
  all_goals (refine ⟨?_, rfl⟩; rw [← hfb]; (try (have := hdd (by assumption))); (have hall : True := trivial); simp only [*, cond_true, cond_false, Bool.true_and, Bool.and_true, Bool.false_and, Bool.and_false])
  all_goals (try simp only [decide_eq_true_eq, decide_eq_false_iff_not] at *)
  all_goals first | rfl | (rw [wrap_u8' (by omega) (by omega), wrap_ok (by omega) (by omega)]; rfl) | (rw [wrap_u8' (by omega) (by omega), wrap_ok (n := c - _) (by omega) (by omega), wrap_ok (by omega) (by omega)]; rfl)
end Go.Proofs.YtcmhpjnafkpofaaDoor
