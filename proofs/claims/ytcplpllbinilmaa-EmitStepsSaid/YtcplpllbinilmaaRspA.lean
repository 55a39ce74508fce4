/- actv rsp1 rsp2 rsp3 few few2, as one text. -/
import Derived.Test.YtcplpllbinilmaaTypes
import Derived.Test.YtcplpllbinilmaaEmA
set_option linter.unusedVariables false
set_option linter.unusedSimpArgs false
/- calls.Value, kind by kind; the document's Value. -/
namespace Go.Proofs.Ytcplpllbinilmaa
open Go Go.Am Go.Proofs
attribute [local irreducible] W WL DL WO RoundEnd
set_option maxRecDepth 100000
set_option maxHeartbeats 4000000
set_option linter.unusedVariables false
set_option linter.unusedSimpArgs false
def actV (k d : Int) : V := .agg [.d (.sc (.int .i64 k)), .d (.sc (.int .i64 d))]
abbrev t2 (n : Int) (b : Bool) : V := .tup [.one (.d (.sc (.int .u32 n))), .one (.d (.sc (.bool b)))]
def valV (o : Option Int) : V := t2 (o.getD 0) o.isSome
def actN (k d : Int) : Option Int :=
  if k = 1 then (if d < 0 ∨ d > 0 then none else some (2147483648 + d)) else
  if k = 2 then (if d < 0 ∨ d > 0 then none else some (0 + d)) else
  if k = 3 then (if d < 0 ∨ d > 65535 then none else some (196608 + d)) else
  if k = 4 then (if d < 0 ∨ d > 65535 then none else some (327680 + d)) else
  if k = 5 then (if d < 0 ∨ d > 65535 then none else some (2146435072 + d)) else
  if k = 6 then (if d < 0 ∨ d > 0 then none else some (2147221504 + d)) else
  if k = 7 then (if d < 0 ∨ d > 0 then none else some (2147418112 + d)) else
  none
theorem pl1 : Comp Try.prog 67 [int .i64 1] (t2 (2147483648) true) := by
  refine Spec.body (C := cx [] 19) fits (fn := Try.f67) Try.func67 rfl (by decide) (by decide) (gI ?_)
  repeat' (first | ((first | refine C_r ?_ | refine O_r ?_); (conv => whnf); first | (refine ⟨fun hb => ?_, fun hb => ?_⟩ <;> try exact no_way) | refine fR ?_) | fail)
  all_goals exact ⟨rfl, rfl⟩
theorem pl2 : Comp Try.prog 67 [int .i64 2] (t2 (0) true) := by
  refine Spec.body (C := cx [] 19) fits (fn := Try.f67) Try.func67 rfl (by decide) (by decide) (gI ?_)
  repeat' (first | ((first | refine C_r ?_ | refine O_r ?_); (conv => whnf); first | (refine ⟨fun hb => ?_, fun hb => ?_⟩ <;> try exact no_way) | refine fR ?_) | fail)
  all_goals exact ⟨rfl, rfl⟩
theorem pl3 : Comp Try.prog 67 [int .i64 3] (t2 (196608) true) := by
  refine Spec.body (C := cx [] 19) fits (fn := Try.f67) Try.func67 rfl (by decide) (by decide) (gI ?_)
  repeat' (first | ((first | refine C_r ?_ | refine O_r ?_); (conv => whnf); first | (refine ⟨fun hb => ?_, fun hb => ?_⟩ <;> try exact no_way) | refine fR ?_) | fail)
  all_goals exact ⟨rfl, rfl⟩
theorem pl4 : Comp Try.prog 67 [int .i64 4] (t2 (327680) true) := by
  refine Spec.body (C := cx [] 19) fits (fn := Try.f67) Try.func67 rfl (by decide) (by decide) (gI ?_)
  repeat' (first | ((first | refine C_r ?_ | refine O_r ?_); (conv => whnf); first | (refine ⟨fun hb => ?_, fun hb => ?_⟩ <;> try exact no_way) | refine fR ?_) | fail)
  all_goals exact ⟨rfl, rfl⟩
theorem pl5 : Comp Try.prog 67 [int .i64 5] (t2 (2146435072) true) := by
  refine Spec.body (C := cx [] 19) fits (fn := Try.f67) Try.func67 rfl (by decide) (by decide) (gI ?_)
  repeat' (first | ((first | refine C_r ?_ | refine O_r ?_); (conv => whnf); first | (refine ⟨fun hb => ?_, fun hb => ?_⟩ <;> try exact no_way) | refine fR ?_) | fail)
  all_goals exact ⟨rfl, rfl⟩
theorem pl6 : Comp Try.prog 67 [int .i64 6] (t2 (2147221504) true) := by
  refine Spec.body (C := cx [] 19) fits (fn := Try.f67) Try.func67 rfl (by decide) (by decide) (gI ?_)
  repeat' (first | ((first | refine C_r ?_ | refine O_r ?_); (conv => whnf); first | (refine ⟨fun hb => ?_, fun hb => ?_⟩ <;> try exact no_way) | refine fR ?_) | fail)
  all_goals exact ⟨rfl, rfl⟩
theorem pl7 : Comp Try.prog 67 [int .i64 7] (t2 (2147418112) true) := by
  refine Spec.body (C := cx [] 19) fits (fn := Try.f67) Try.func67 rfl (by decide) (by decide) (gI ?_)
  repeat' (first | ((first | refine C_r ?_ | refine O_r ?_); (conv => whnf); first | (refine ⟨fun hb => ?_, fun hb => ?_⟩ <;> try exact no_way) | refine fR ?_) | fail)
  all_goals exact ⟨rfl, rfl⟩
theorem plNo (x : Int) (h1 : (x == 1) = false) (h2 : (x == 2) = false) (h3 : (x == 3) = false) (h4 : (x == 4) = false) (h5 : (x == 5) = false) (h6 : (x == 6) = false) (h7 : (x == 7) = false) : Comp Try.prog 67 [int .i64 x] (t2 (0) false) := by
  refine Spec.body (C := cx [] 19) fits (fn := Try.f67) Try.func67 rfl (by decide) (by decide) (gI ?_)
  repeat' (first | ((first | refine C_r ?_ | refine O_r ?_); (conv => whnf); first | (refine ⟨fun hb => ?_, fun hb => ?_⟩ <;> try exact no_way) | refine fR ?_) | fail)
  all_goals exact ⟨rfl, rfl⟩
theorem vb1 (d : Int) (h : d < 0 ∨ d > 0) : Comp Try.prog 56 [actV 1 d] (t2 (0) false) := by
  have c1 := pl1
  unfold actV
  cases h1 : decide (d < 0) with
  | true =>
    refine Spec.body (C := cx [] 44) fits (fn := Try.f56) Try.func56 rfl (by decide) (by decide) (gI ?_)
    repeat' (first | ((first | refine C_r ?_ | refine O_r ?_); (conv => whnf); first | (refine ⟨fun hb => ?_, fun hb => ?_⟩ <;> try exact no_way) | refine B_o ?_ | refine fR ?_) | refine C_l (c1) ?_ | fail)
    all_goals exact ⟨rfl, rfl⟩
  | false =>
    have h2 : decide (d > 0) = true := by
      rw [decide_eq_false_iff_not] at h1
      rw [decide_eq_true_eq]; omega
    refine Spec.body (C := cx [] 44) fits (fn := Try.f56) Try.func56 rfl (by decide) (by decide) (gI ?_)
    repeat' (first | ((first | refine C_r ?_ | refine O_r ?_); (conv => whnf); first | (refine ⟨fun hb => ?_, fun hb => ?_⟩ <;> try exact no_way) | refine B_o ?_ | refine fR ?_) | refine C_l (c1) ?_ | fail)
    all_goals exact ⟨rfl, rfl⟩
theorem vk1 (d : Int) (h : ¬ (d < 0 ∨ d > 0)) : Comp Try.prog 56 [actV 1 d] (t2 ((2147483648 + d)) true) := by
  have c1 := pl1
  unfold actV
  have h1 : decide (d < 0) = false := by rw [decide_eq_false_iff_not]; omega
  have h2 : decide (d > 0) = false := by rw [decide_eq_false_iff_not]; omega
  have e1 : IntKind.u32.wrap d = d := wrap_u32 (by omega) (by omega)
  have e2 : IntKind.u32.wrap (2147483648 + d) = 2147483648 + d := wrap_u32 (by omega) (by omega)
  refine Spec.body (C := cx [] 44) fits (fn := Try.f56) Try.func56 rfl (by decide) (by decide) (gI ?_)
  repeat' (first | ((first | refine C_r ?_ | refine O_r ?_); (conv => whnf); first | (refine ⟨fun hb => ?_, fun hb => ?_⟩ <;> try exact no_way) | refine B_o ?_ | refine fR ?_) | refine C_l (c1) ?_ | fail)
  all_goals exact ⟨by rw [e1, e2], rfl⟩
theorem vb2 (d : Int) (h : d < 0 ∨ d > 0) : Comp Try.prog 56 [actV 2 d] (t2 (0) false) := by
  have c1 := pl2
  unfold actV
  cases h1 : decide (d < 0) with
  | true =>
    refine Spec.body (C := cx [] 44) fits (fn := Try.f56) Try.func56 rfl (by decide) (by decide) (gI ?_)
    repeat' (first | ((first | refine C_r ?_ | refine O_r ?_); (conv => whnf); first | (refine ⟨fun hb => ?_, fun hb => ?_⟩ <;> try exact no_way) | refine B_o ?_ | refine fR ?_) | refine C_l (c1) ?_ | fail)
    all_goals exact ⟨rfl, rfl⟩
  | false =>
    have h2 : decide (d > 0) = true := by
      rw [decide_eq_false_iff_not] at h1
      rw [decide_eq_true_eq]; omega
    refine Spec.body (C := cx [] 44) fits (fn := Try.f56) Try.func56 rfl (by decide) (by decide) (gI ?_)
    repeat' (first | ((first | refine C_r ?_ | refine O_r ?_); (conv => whnf); first | (refine ⟨fun hb => ?_, fun hb => ?_⟩ <;> try exact no_way) | refine B_o ?_ | refine fR ?_) | refine C_l (c1) ?_ | fail)
    all_goals exact ⟨rfl, rfl⟩
theorem vk2 (d : Int) (h : ¬ (d < 0 ∨ d > 0)) : Comp Try.prog 56 [actV 2 d] (t2 ((0 + d)) true) := by
  have c1 := pl2
  unfold actV
  have h1 : decide (d < 0) = false := by rw [decide_eq_false_iff_not]; omega
  have h2 : decide (d > 0) = false := by rw [decide_eq_false_iff_not]; omega
  have e1 : IntKind.u32.wrap d = d := wrap_u32 (by omega) (by omega)
  have e2 : IntKind.u32.wrap (0 + d) = 0 + d := wrap_u32 (by omega) (by omega)
  refine Spec.body (C := cx [] 44) fits (fn := Try.f56) Try.func56 rfl (by decide) (by decide) (gI ?_)
  repeat' (first | ((first | refine C_r ?_ | refine O_r ?_); (conv => whnf); first | (refine ⟨fun hb => ?_, fun hb => ?_⟩ <;> try exact no_way) | refine B_o ?_ | refine fR ?_) | refine C_l (c1) ?_ | fail)
  all_goals exact ⟨by rw [e1, e2], rfl⟩
theorem vb3 (d : Int) (h : d < 0 ∨ d > 65535) : Comp Try.prog 56 [actV 3 d] (t2 (0) false) := by
  have c1 := pl3
  unfold actV
  cases h1 : decide (d < 0) with
  | true =>
    refine Spec.body (C := cx [] 44) fits (fn := Try.f56) Try.func56 rfl (by decide) (by decide) (gI ?_)
    repeat' (first | ((first | refine C_r ?_ | refine O_r ?_); (conv => whnf); first | (refine ⟨fun hb => ?_, fun hb => ?_⟩ <;> try exact no_way) | refine B_o ?_ | refine fR ?_) | refine C_l (c1) ?_ | fail)
    all_goals exact ⟨rfl, rfl⟩
  | false =>
    have h2 : decide (d > 65535) = true := by
      rw [decide_eq_false_iff_not] at h1
      rw [decide_eq_true_eq]; omega
    refine Spec.body (C := cx [] 44) fits (fn := Try.f56) Try.func56 rfl (by decide) (by decide) (gI ?_)
    repeat' (first | ((first | refine C_r ?_ | refine O_r ?_); (conv => whnf); first | (refine ⟨fun hb => ?_, fun hb => ?_⟩ <;> try exact no_way) | refine B_o ?_ | refine fR ?_) | refine C_l (c1) ?_ | fail)
    all_goals exact ⟨rfl, rfl⟩
theorem vk3 (d : Int) (h : ¬ (d < 0 ∨ d > 65535)) : Comp Try.prog 56 [actV 3 d] (t2 ((196608 + d)) true) := by
  have c1 := pl3
  unfold actV
  have h1 : decide (d < 0) = false := by rw [decide_eq_false_iff_not]; omega
  have h2 : decide (d > 65535) = false := by rw [decide_eq_false_iff_not]; omega
  have e1 : IntKind.u32.wrap d = d := wrap_u32 (by omega) (by omega)
  have e2 : IntKind.u32.wrap (196608 + d) = 196608 + d := wrap_u32 (by omega) (by omega)
  refine Spec.body (C := cx [] 44) fits (fn := Try.f56) Try.func56 rfl (by decide) (by decide) (gI ?_)
  repeat' (first | ((first | refine C_r ?_ | refine O_r ?_); (conv => whnf); first | (refine ⟨fun hb => ?_, fun hb => ?_⟩ <;> try exact no_way) | refine B_o ?_ | refine fR ?_) | refine C_l (c1) ?_ | fail)
  all_goals exact ⟨by rw [e1, e2], rfl⟩
theorem vb4 (d : Int) (h : d < 0 ∨ d > 65535) : Comp Try.prog 56 [actV 4 d] (t2 (0) false) := by
  have c1 := pl4
  unfold actV
  cases h1 : decide (d < 0) with
  | true =>
    refine Spec.body (C := cx [] 44) fits (fn := Try.f56) Try.func56 rfl (by decide) (by decide) (gI ?_)
    repeat' (first | ((first | refine C_r ?_ | refine O_r ?_); (conv => whnf); first | (refine ⟨fun hb => ?_, fun hb => ?_⟩ <;> try exact no_way) | refine B_o ?_ | refine fR ?_) | refine C_l (c1) ?_ | fail)
    all_goals exact ⟨rfl, rfl⟩
  | false =>
    have h2 : decide (d > 65535) = true := by
      rw [decide_eq_false_iff_not] at h1
      rw [decide_eq_true_eq]; omega
    refine Spec.body (C := cx [] 44) fits (fn := Try.f56) Try.func56 rfl (by decide) (by decide) (gI ?_)
    repeat' (first | ((first | refine C_r ?_ | refine O_r ?_); (conv => whnf); first | (refine ⟨fun hb => ?_, fun hb => ?_⟩ <;> try exact no_way) | refine B_o ?_ | refine fR ?_) | refine C_l (c1) ?_ | fail)
    all_goals exact ⟨rfl, rfl⟩
theorem vk4 (d : Int) (h : ¬ (d < 0 ∨ d > 65535)) : Comp Try.prog 56 [actV 4 d] (t2 ((327680 + d)) true) := by
  have c1 := pl4
  unfold actV
  have h1 : decide (d < 0) = false := by rw [decide_eq_false_iff_not]; omega
  have h2 : decide (d > 65535) = false := by rw [decide_eq_false_iff_not]; omega
  have e1 : IntKind.u32.wrap d = d := wrap_u32 (by omega) (by omega)
  have e2 : IntKind.u32.wrap (327680 + d) = 327680 + d := wrap_u32 (by omega) (by omega)
  refine Spec.body (C := cx [] 44) fits (fn := Try.f56) Try.func56 rfl (by decide) (by decide) (gI ?_)
  repeat' (first | ((first | refine C_r ?_ | refine O_r ?_); (conv => whnf); first | (refine ⟨fun hb => ?_, fun hb => ?_⟩ <;> try exact no_way) | refine B_o ?_ | refine fR ?_) | refine C_l (c1) ?_ | fail)
  all_goals exact ⟨by rw [e1, e2], rfl⟩
theorem vb5 (d : Int) (h : d < 0 ∨ d > 65535) : Comp Try.prog 56 [actV 5 d] (t2 (0) false) := by
  have c1 := pl5
  unfold actV
  cases h1 : decide (d < 0) with
  | true =>
    refine Spec.body (C := cx [] 44) fits (fn := Try.f56) Try.func56 rfl (by decide) (by decide) (gI ?_)
    repeat' (first | ((first | refine C_r ?_ | refine O_r ?_); (conv => whnf); first | (refine ⟨fun hb => ?_, fun hb => ?_⟩ <;> try exact no_way) | refine B_o ?_ | refine fR ?_) | refine C_l (c1) ?_ | fail)
    all_goals exact ⟨rfl, rfl⟩
  | false =>
    have h2 : decide (d > 65535) = true := by
      rw [decide_eq_false_iff_not] at h1
      rw [decide_eq_true_eq]; omega
    refine Spec.body (C := cx [] 44) fits (fn := Try.f56) Try.func56 rfl (by decide) (by decide) (gI ?_)
    repeat' (first | ((first | refine C_r ?_ | refine O_r ?_); (conv => whnf); first | (refine ⟨fun hb => ?_, fun hb => ?_⟩ <;> try exact no_way) | refine B_o ?_ | refine fR ?_) | refine C_l (c1) ?_ | fail)
    all_goals exact ⟨rfl, rfl⟩
theorem vk5 (d : Int) (h : ¬ (d < 0 ∨ d > 65535)) : Comp Try.prog 56 [actV 5 d] (t2 ((2146435072 + d)) true) := by
  have c1 := pl5
  unfold actV
  have h1 : decide (d < 0) = false := by rw [decide_eq_false_iff_not]; omega
  have h2 : decide (d > 65535) = false := by rw [decide_eq_false_iff_not]; omega
  have e1 : IntKind.u32.wrap d = d := wrap_u32 (by omega) (by omega)
  have e2 : IntKind.u32.wrap (2146435072 + d) = 2146435072 + d := wrap_u32 (by omega) (by omega)
  refine Spec.body (C := cx [] 44) fits (fn := Try.f56) Try.func56 rfl (by decide) (by decide) (gI ?_)
  repeat' (first | ((first | refine C_r ?_ | refine O_r ?_); (conv => whnf); first | (refine ⟨fun hb => ?_, fun hb => ?_⟩ <;> try exact no_way) | refine B_o ?_ | refine fR ?_) | refine C_l (c1) ?_ | fail)
  all_goals exact ⟨by rw [e1, e2], rfl⟩
theorem vb6 (d : Int) (h : d < 0 ∨ d > 0) : Comp Try.prog 56 [actV 6 d] (t2 (0) false) := by
  have c1 := pl6
  unfold actV
  cases h1 : decide (d < 0) with
  | true =>
    refine Spec.body (C := cx [] 44) fits (fn := Try.f56) Try.func56 rfl (by decide) (by decide) (gI ?_)
    repeat' (first | ((first | refine C_r ?_ | refine O_r ?_); (conv => whnf); first | (refine ⟨fun hb => ?_, fun hb => ?_⟩ <;> try exact no_way) | refine B_o ?_ | refine fR ?_) | refine C_l (c1) ?_ | fail)
    all_goals exact ⟨rfl, rfl⟩
  | false =>
    have h2 : decide (d > 0) = true := by
      rw [decide_eq_false_iff_not] at h1
      rw [decide_eq_true_eq]; omega
    refine Spec.body (C := cx [] 44) fits (fn := Try.f56) Try.func56 rfl (by decide) (by decide) (gI ?_)
    repeat' (first | ((first | refine C_r ?_ | refine O_r ?_); (conv => whnf); first | (refine ⟨fun hb => ?_, fun hb => ?_⟩ <;> try exact no_way) | refine B_o ?_ | refine fR ?_) | refine C_l (c1) ?_ | fail)
    all_goals exact ⟨rfl, rfl⟩
theorem vk6 (d : Int) (h : ¬ (d < 0 ∨ d > 0)) : Comp Try.prog 56 [actV 6 d] (t2 ((2147221504 + d)) true) := by
  have c1 := pl6
  unfold actV
  have h1 : decide (d < 0) = false := by rw [decide_eq_false_iff_not]; omega
  have h2 : decide (d > 0) = false := by rw [decide_eq_false_iff_not]; omega
  have e1 : IntKind.u32.wrap d = d := wrap_u32 (by omega) (by omega)
  have e2 : IntKind.u32.wrap (2147221504 + d) = 2147221504 + d := wrap_u32 (by omega) (by omega)
  refine Spec.body (C := cx [] 44) fits (fn := Try.f56) Try.func56 rfl (by decide) (by decide) (gI ?_)
  repeat' (first | ((first | refine C_r ?_ | refine O_r ?_); (conv => whnf); first | (refine ⟨fun hb => ?_, fun hb => ?_⟩ <;> try exact no_way) | refine B_o ?_ | refine fR ?_) | refine C_l (c1) ?_ | fail)
  all_goals exact ⟨by rw [e1, e2], rfl⟩
theorem vb7 (d : Int) (h : d < 0 ∨ d > 0) : Comp Try.prog 56 [actV 7 d] (t2 (0) false) := by
  have c1 := pl7
  unfold actV
  cases h1 : decide (d < 0) with
  | true =>
    refine Spec.body (C := cx [] 44) fits (fn := Try.f56) Try.func56 rfl (by decide) (by decide) (gI ?_)
    repeat' (first | ((first | refine C_r ?_ | refine O_r ?_); (conv => whnf); first | (refine ⟨fun hb => ?_, fun hb => ?_⟩ <;> try exact no_way) | refine B_o ?_ | refine fR ?_) | refine C_l (c1) ?_ | fail)
    all_goals exact ⟨rfl, rfl⟩
  | false =>
    have h2 : decide (d > 0) = true := by
      rw [decide_eq_false_iff_not] at h1
      rw [decide_eq_true_eq]; omega
    refine Spec.body (C := cx [] 44) fits (fn := Try.f56) Try.func56 rfl (by decide) (by decide) (gI ?_)
    repeat' (first | ((first | refine C_r ?_ | refine O_r ?_); (conv => whnf); first | (refine ⟨fun hb => ?_, fun hb => ?_⟩ <;> try exact no_way) | refine B_o ?_ | refine fR ?_) | refine C_l (c1) ?_ | fail)
    all_goals exact ⟨rfl, rfl⟩
theorem vk7 (d : Int) (h : ¬ (d < 0 ∨ d > 0)) : Comp Try.prog 56 [actV 7 d] (t2 ((2147418112 + d)) true) := by
  have c1 := pl7
  unfold actV
  have h1 : decide (d < 0) = false := by rw [decide_eq_false_iff_not]; omega
  have h2 : decide (d > 0) = false := by rw [decide_eq_false_iff_not]; omega
  have e1 : IntKind.u32.wrap d = d := wrap_u32 (by omega) (by omega)
  have e2 : IntKind.u32.wrap (2147418112 + d) = 2147418112 + d := wrap_u32 (by omega) (by omega)
  refine Spec.body (C := cx [] 44) fits (fn := Try.f56) Try.func56 rfl (by decide) (by decide) (gI ?_)
  repeat' (first | ((first | refine C_r ?_ | refine O_r ?_); (conv => whnf); first | (refine ⟨fun hb => ?_, fun hb => ?_⟩ <;> try exact no_way) | refine B_o ?_ | refine fR ?_) | refine C_l (c1) ?_ | fail)
  all_goals exact ⟨by rw [e1, e2], rfl⟩
theorem vNo (x d : Int) (h1 : (x == 1) = false) (h2 : (x == 2) = false) (h3 : (x == 3) = false) (h4 : (x == 4) = false) (h5 : (x == 5) = false) (h6 : (x == 6) = false) (h7 : (x == 7) = false) : Comp Try.prog 56 [actV x d] (t2 (0) false) := by
  have c1 := plNo x h1 h2 h3 h4 h5 h6 h7
  unfold actV
  refine Spec.body (C := cx [] 44) fits (fn := Try.f56) Try.func56 rfl (by decide) (by decide) (gI ?_)
  repeat' (first | ((first | refine C_r ?_ | refine O_r ?_); (conv => whnf); first | (refine ⟨fun hb => ?_, fun hb => ?_⟩ <;> try exact no_way) | refine B_o ?_ | refine fR ?_) | refine C_l (c1) ?_ | fail)
  all_goals exact ⟨rfl, rfl⟩
theorem beqF {a b : Int} (h : ¬ a = b) : (a == b) = false := by simpa using h
theorem actR (x d : Int) : Comp Try.prog 56 [actV x d] (valV (actN x d)) := by
  unfold actN
  split
  · rename_i h; subst h
    split
    · rename_i h; exact vb1 d h
    · rename_i h; exact vk1 d h
  rename_i h1
  split
  · rename_i h; subst h
    split
    · rename_i h; exact vb2 d h
    · rename_i h; exact vk2 d h
  rename_i h2
  split
  · rename_i h; subst h
    split
    · rename_i h; exact vb3 d h
    · rename_i h; exact vk3 d h
  rename_i h3
  split
  · rename_i h; subst h
    split
    · rename_i h; exact vb4 d h
    · rename_i h; exact vk4 d h
  rename_i h4
  split
  · rename_i h; subst h
    split
    · rename_i h; exact vb5 d h
    · rename_i h; exact vk5 d h
  rename_i h5
  split
  · rename_i h; subst h
    split
    · rename_i h; exact vb6 d h
    · rename_i h; exact vk6 d h
  rename_i h6
  split
  · rename_i h; subst h
    split
    · rename_i h; exact vb7 d h
    · rename_i h; exact vk7 d h
  rename_i h7
  exact vNo x d (beqF h1) (beqF h2) (beqF h3) (beqF h4) (beqF h5) (beqF h6) (beqF h7)
theorem actN_some {x d v : Int} (h : actN x d = some v) : (x = 1 ∧ d = 0 ∧ v = 2147483648) ∨ (x = 2 ∧ d = 0 ∧ v = 0) ∨ (x = 3 ∧ 0 ≤ d ∧ d ≤ 65535 ∧ v = 196608 + d) ∨ (x = 4 ∧ 0 ≤ d ∧ d ≤ 65535 ∧ v = 327680 + d) ∨ (x = 5 ∧ 0 ≤ d ∧ d ≤ 65535 ∧ v = 2146435072 + d) ∨ (x = 6 ∧ d = 0 ∧ v = 2147221504) ∨ (x = 7 ∧ d = 0 ∧ v = 2147418112) := by
  unfold actN at h
  repeat' split at h
  all_goals first
    | (injection h with h; omega)
    | cases h
theorem rb1 (d : Int) (h : d < 0 ∨ d > 0) : Comp Try.prog 23 [actV 1 d] (t2 (0) false) := by
  unfold actV
  have h1 : (!(d == 0)) = true := by rw [Bool.not_eq_true', beq_eq_false_iff_ne]; omega
  refine Spec.body (C := cx [] 47) fits (fn := Try.f23) Try.func23 rfl (by decide) (by decide) (gI ?_)
  repeat' (first | ((first | refine C_r ?_ | refine O_r ?_); (conv => whnf); first | (refine ⟨fun hb => ?_, fun hb => ?_⟩ <;> try exact no_way) | refine fR ?_) | fail)
  all_goals exact ⟨rfl, rfl⟩
theorem rk1 (d : Int) (h : ¬ (d < 0 ∨ d > 0)) : Comp Try.prog 23 [actV 1 d] (t2 ((2147483648 + d)) true) := by
  unfold actV
  have h1 : (!(d == 0)) = false := by rw [Bool.not_eq_false', beq_iff_eq]; omega
  have e1 : IntKind.u32.wrap d = d := wrap_u32 (by omega) (by omega)
  have e2 : IntKind.u32.wrap (2147483648 + d) = 2147483648 + d := wrap_u32 (by omega) (by omega)
  refine Spec.body (C := cx [] 47) fits (fn := Try.f23) Try.func23 rfl (by decide) (by decide) (gI ?_)
  repeat' (first | ((first | refine C_r ?_ | refine O_r ?_); (conv => whnf); first | (refine ⟨fun hb => ?_, fun hb => ?_⟩ <;> try exact no_way) | refine fR ?_) | fail)
  all_goals exact ⟨by rw [e1, e2], rfl⟩
theorem rb2 (d : Int) (h : d < 0 ∨ d > 0) : Comp Try.prog 23 [actV 2 d] (t2 (0) false) := by
  unfold actV
  have h1 : (!(d == 0)) = true := by rw [Bool.not_eq_true', beq_eq_false_iff_ne]; omega
  refine Spec.body (C := cx [] 47) fits (fn := Try.f23) Try.func23 rfl (by decide) (by decide) (gI ?_)
  repeat' (first | ((first | refine C_r ?_ | refine O_r ?_); (conv => whnf); first | (refine ⟨fun hb => ?_, fun hb => ?_⟩ <;> try exact no_way) | refine fR ?_) | fail)
  all_goals exact ⟨rfl, rfl⟩
theorem rk2 (d : Int) (h : ¬ (d < 0 ∨ d > 0)) : Comp Try.prog 23 [actV 2 d] (t2 ((0 + d)) true) := by
  unfold actV
  have h1 : (!(d == 0)) = false := by rw [Bool.not_eq_false', beq_iff_eq]; omega
  have e1 : IntKind.u32.wrap d = d := wrap_u32 (by omega) (by omega)
  have e2 : IntKind.u32.wrap (0 + d) = 0 + d := wrap_u32 (by omega) (by omega)
  refine Spec.body (C := cx [] 47) fits (fn := Try.f23) Try.func23 rfl (by decide) (by decide) (gI ?_)
  repeat' (first | ((first | refine C_r ?_ | refine O_r ?_); (conv => whnf); first | (refine ⟨fun hb => ?_, fun hb => ?_⟩ <;> try exact no_way) | refine fR ?_) | fail)
  all_goals exact ⟨by rw [e1, e2], rfl⟩
theorem rb3 (d : Int) (h : d < 0 ∨ d > 65535) : Comp Try.prog 23 [actV 3 d] (t2 (0) false) := by
  unfold actV
  cases h1 : decide (d < 0) with
  | true =>
    refine Spec.body (C := cx [] 47) fits (fn := Try.f23) Try.func23 rfl (by decide) (by decide) (gI ?_)
    repeat' (first | ((first | refine C_r ?_ | refine O_r ?_); (conv => whnf); first | (refine ⟨fun hb => ?_, fun hb => ?_⟩ <;> try exact no_way) | refine fR ?_) | fail)
    all_goals exact ⟨rfl, rfl⟩
  | false =>
    have h2 : decide (d > 65535) = true := by
      rw [decide_eq_false_iff_not] at h1
      rw [decide_eq_true_eq]; omega
    refine Spec.body (C := cx [] 47) fits (fn := Try.f23) Try.func23 rfl (by decide) (by decide) (gI ?_)
    repeat' (first | ((first | refine C_r ?_ | refine O_r ?_); (conv => whnf); first | (refine ⟨fun hb => ?_, fun hb => ?_⟩ <;> try exact no_way) | refine fR ?_) | fail)
    all_goals exact ⟨rfl, rfl⟩
theorem rk3 (d : Int) (h : ¬ (d < 0 ∨ d > 65535)) : Comp Try.prog 23 [actV 3 d] (t2 ((196608 + d)) true) := by
  unfold actV
  have h1 : decide (d < 0) = false := by rw [decide_eq_false_iff_not]; omega
  have h2 : decide (d > 65535) = false := by rw [decide_eq_false_iff_not]; omega
  have e1 : IntKind.u32.wrap d = d := wrap_u32 (by omega) (by omega)
  have e2 : IntKind.u32.wrap (196608 + d) = 196608 + d := wrap_u32 (by omega) (by omega)
  refine Spec.body (C := cx [] 47) fits (fn := Try.f23) Try.func23 rfl (by decide) (by decide) (gI ?_)
  repeat' (first | ((first | refine C_r ?_ | refine O_r ?_); (conv => whnf); first | (refine ⟨fun hb => ?_, fun hb => ?_⟩ <;> try exact no_way) | refine fR ?_) | fail)
  all_goals exact ⟨by rw [e1, e2], rfl⟩
theorem rb4 (d : Int) (h : d < 0 ∨ d > 65535) : Comp Try.prog 23 [actV 4 d] (t2 (0) false) := by
  unfold actV
  cases h1 : decide (d < 0) with
  | true =>
    refine Spec.body (C := cx [] 47) fits (fn := Try.f23) Try.func23 rfl (by decide) (by decide) (gI ?_)
    repeat' (first | ((first | refine C_r ?_ | refine O_r ?_); (conv => whnf); first | (refine ⟨fun hb => ?_, fun hb => ?_⟩ <;> try exact no_way) | refine fR ?_) | fail)
    all_goals exact ⟨rfl, rfl⟩
  | false =>
    have h2 : decide (d > 65535) = true := by
      rw [decide_eq_false_iff_not] at h1
      rw [decide_eq_true_eq]; omega
    refine Spec.body (C := cx [] 47) fits (fn := Try.f23) Try.func23 rfl (by decide) (by decide) (gI ?_)
    repeat' (first | ((first | refine C_r ?_ | refine O_r ?_); (conv => whnf); first | (refine ⟨fun hb => ?_, fun hb => ?_⟩ <;> try exact no_way) | refine fR ?_) | fail)
    all_goals exact ⟨rfl, rfl⟩
theorem rk4 (d : Int) (h : ¬ (d < 0 ∨ d > 65535)) : Comp Try.prog 23 [actV 4 d] (t2 ((327680 + d)) true) := by
  unfold actV
  have h1 : decide (d < 0) = false := by rw [decide_eq_false_iff_not]; omega
  have h2 : decide (d > 65535) = false := by rw [decide_eq_false_iff_not]; omega
  have e1 : IntKind.u32.wrap d = d := wrap_u32 (by omega) (by omega)
  have e2 : IntKind.u32.wrap (327680 + d) = 327680 + d := wrap_u32 (by omega) (by omega)
  refine Spec.body (C := cx [] 47) fits (fn := Try.f23) Try.func23 rfl (by decide) (by decide) (gI ?_)
  repeat' (first | ((first | refine C_r ?_ | refine O_r ?_); (conv => whnf); first | (refine ⟨fun hb => ?_, fun hb => ?_⟩ <;> try exact no_way) | refine fR ?_) | fail)
  all_goals exact ⟨by rw [e1, e2], rfl⟩
theorem rb5 (d : Int) (h : d < 0 ∨ d > 65535) : Comp Try.prog 23 [actV 5 d] (t2 (0) false) := by
  unfold actV
  cases h1 : decide (d < 0) with
  | true =>
    refine Spec.body (C := cx [] 47) fits (fn := Try.f23) Try.func23 rfl (by decide) (by decide) (gI ?_)
    repeat' (first | ((first | refine C_r ?_ | refine O_r ?_); (conv => whnf); first | (refine ⟨fun hb => ?_, fun hb => ?_⟩ <;> try exact no_way) | refine fR ?_) | fail)
    all_goals exact ⟨rfl, rfl⟩
  | false =>
    have h2 : decide (d > 65535) = true := by
      rw [decide_eq_false_iff_not] at h1
      rw [decide_eq_true_eq]; omega
    refine Spec.body (C := cx [] 47) fits (fn := Try.f23) Try.func23 rfl (by decide) (by decide) (gI ?_)
    repeat' (first | ((first | refine C_r ?_ | refine O_r ?_); (conv => whnf); first | (refine ⟨fun hb => ?_, fun hb => ?_⟩ <;> try exact no_way) | refine fR ?_) | fail)
    all_goals exact ⟨rfl, rfl⟩
theorem rk5 (d : Int) (h : ¬ (d < 0 ∨ d > 65535)) : Comp Try.prog 23 [actV 5 d] (t2 ((2146435072 + d)) true) := by
  unfold actV
  have h1 : decide (d < 0) = false := by rw [decide_eq_false_iff_not]; omega
  have h2 : decide (d > 65535) = false := by rw [decide_eq_false_iff_not]; omega
  have e1 : IntKind.u32.wrap d = d := wrap_u32 (by omega) (by omega)
  have e2 : IntKind.u32.wrap (2146435072 + d) = 2146435072 + d := wrap_u32 (by omega) (by omega)
  refine Spec.body (C := cx [] 47) fits (fn := Try.f23) Try.func23 rfl (by decide) (by decide) (gI ?_)
  repeat' (first | ((first | refine C_r ?_ | refine O_r ?_); (conv => whnf); first | (refine ⟨fun hb => ?_, fun hb => ?_⟩ <;> try exact no_way) | refine fR ?_) | fail)
  all_goals exact ⟨by rw [e1, e2], rfl⟩
theorem rb6 (d : Int) (h : d < 0 ∨ d > 0) : Comp Try.prog 23 [actV 6 d] (t2 (0) false) := by
  unfold actV
  have h1 : (!(d == 0)) = true := by rw [Bool.not_eq_true', beq_eq_false_iff_ne]; omega
  refine Spec.body (C := cx [] 47) fits (fn := Try.f23) Try.func23 rfl (by decide) (by decide) (gI ?_)
  repeat' (first | ((first | refine C_r ?_ | refine O_r ?_); (conv => whnf); first | (refine ⟨fun hb => ?_, fun hb => ?_⟩ <;> try exact no_way) | refine fR ?_) | fail)
  all_goals exact ⟨rfl, rfl⟩
theorem rk6 (d : Int) (h : ¬ (d < 0 ∨ d > 0)) : Comp Try.prog 23 [actV 6 d] (t2 ((2147221504 + d)) true) := by
  unfold actV
  have h1 : (!(d == 0)) = false := by rw [Bool.not_eq_false', beq_iff_eq]; omega
  have e1 : IntKind.u32.wrap d = d := wrap_u32 (by omega) (by omega)
  have e2 : IntKind.u32.wrap (2147221504 + d) = 2147221504 + d := wrap_u32 (by omega) (by omega)
  refine Spec.body (C := cx [] 47) fits (fn := Try.f23) Try.func23 rfl (by decide) (by decide) (gI ?_)
  repeat' (first | ((first | refine C_r ?_ | refine O_r ?_); (conv => whnf); first | (refine ⟨fun hb => ?_, fun hb => ?_⟩ <;> try exact no_way) | refine fR ?_) | fail)
  all_goals exact ⟨by rw [e1, e2], rfl⟩
theorem rb7 (d : Int) (h : d < 0 ∨ d > 0) : Comp Try.prog 23 [actV 7 d] (t2 (0) false) := by
  unfold actV
  have h1 : (!(d == 0)) = true := by rw [Bool.not_eq_true', beq_eq_false_iff_ne]; omega
  refine Spec.body (C := cx [] 47) fits (fn := Try.f23) Try.func23 rfl (by decide) (by decide) (gI ?_)
  repeat' (first | ((first | refine C_r ?_ | refine O_r ?_); (conv => whnf); first | (refine ⟨fun hb => ?_, fun hb => ?_⟩ <;> try exact no_way) | refine fR ?_) | fail)
  all_goals exact ⟨rfl, rfl⟩
theorem rk7 (d : Int) (h : ¬ (d < 0 ∨ d > 0)) : Comp Try.prog 23 [actV 7 d] (t2 ((2147418112 + d)) true) := by
  unfold actV
  have h1 : (!(d == 0)) = false := by rw [Bool.not_eq_false', beq_iff_eq]; omega
  have e1 : IntKind.u32.wrap d = d := wrap_u32 (by omega) (by omega)
  have e2 : IntKind.u32.wrap (2147418112 + d) = 2147418112 + d := wrap_u32 (by omega) (by omega)
  refine Spec.body (C := cx [] 47) fits (fn := Try.f23) Try.func23 rfl (by decide) (by decide) (gI ?_)
  repeat' (first | ((first | refine C_r ?_ | refine O_r ?_); (conv => whnf); first | (refine ⟨fun hb => ?_, fun hb => ?_⟩ <;> try exact no_way) | refine fR ?_) | fail)
  all_goals exact ⟨by rw [e1, e2], rfl⟩
theorem rNo (x d : Int) (h1 : (x == 1) = false) (h2 : (x == 2) = false) (h3 : (x == 3) = false) (h4 : (x == 4) = false) (h5 : (x == 5) = false) (h6 : (x == 6) = false) (h7 : (x == 7) = false) : Comp Try.prog 23 [actV x d] (t2 (0) false) := by
  unfold actV
  refine Spec.body (C := cx [] 47) fits (fn := Try.f23) Try.func23 rfl (by decide) (by decide) (gI ?_)
  repeat' (first | ((first | refine C_r ?_ | refine O_r ?_); (conv => whnf); first | (refine ⟨fun hb => ?_, fun hb => ?_⟩ <;> try exact no_way) | refine fR ?_) | fail)
  all_goals exact ⟨rfl, rfl⟩
theorem refActR (x d : Int) : Comp Try.prog 23 [actV x d] (valV (actN x d)) := by
  unfold actN
  split
  · rename_i h; subst h
    split
    · rename_i h; exact rb1 d h
    · rename_i h; exact rk1 d h
  rename_i h1
  split
  · rename_i h; subst h
    split
    · rename_i h; exact rb2 d h
    · rename_i h; exact rk2 d h
  rename_i h2
  split
  · rename_i h; subst h
    split
    · rename_i h; exact rb3 d h
    · rename_i h; exact rk3 d h
  rename_i h3
  split
  · rename_i h; subst h
    split
    · rename_i h; exact rb4 d h
    · rename_i h; exact rk4 d h
  rename_i h4
  split
  · rename_i h; subst h
    split
    · rename_i h; exact rb5 d h
    · rename_i h; exact rk5 d h
  rename_i h5
  split
  · rename_i h; subst h
    split
    · rename_i h; exact rb6 d h
    · rename_i h; exact rk6 d h
  rename_i h6
  split
  · rename_i h; subst h
    split
    · rename_i h; exact rb7 d h
    · rename_i h; exact rk7 d h
  rename_i h7
  exact rNo x d (beqF h1) (beqF h2) (beqF h3) (beqF h4) (beqF h5) (beqF h6) (beqF h7)
end Go.Proofs.Ytcplpllbinilmaa
/- Which spans may be: the program's. -/
namespace Go.Proofs.Ytcplpllbinilmaa
open Go Go.Am Go.Proofs
attribute [local irreducible] W WL DL WO RoundEnd
set_option maxRecDepth 10000
set_option maxHeartbeats 4000000
set_option linter.unusedVariables false
set_option linter.unusedSimpArgs false
def mayF (a o : Int) : Bool := decide (a ≥ 0) && (decide (a ≤ 5) && (decide (o ≥ 1) && decide (o ≤ 6)))
theorem mayR (a o : Int) : Comp Try.prog 78 [int .i64 a, int .i64 o] (bool (mayF a o)) := by
  unfold mayF
  refine Spec.body (C := cx [] 19) fits (fn := Try.f78) Try.func78 rfl (by decide) (by decide) (gI ?_)
  repeat' (first | ((first | refine C_r ?_ | refine O_r ?_); (conv => whnf); first | (refine ⟨fun hb => ?_, fun hb => ?_⟩ <;> try exact no_way) | refine fR ?_) | fail)
  all_goals (refine ⟨?_, rfl⟩; simp only [*, Bool.true_and, Bool.false_and]; first | rfl | trace_state)
def halfOk (h : Half) : Bool := mayF h.arg h.op
theorem halfRightR (h : Half) : Comp Try.prog 74 [.agg (h.row.map .d)] (bool (halfOk h)) := by
  have c1 := mayR h.arg h.op
  unfold halfOk
  generalize mayF h.arg h.op = b at *
  refine Spec.body (C := cx [] 8) fits (fn := Try.f74) Try.func74 rfl (by decide) (by decide) (gI ?_)
  repeat' (first | ((first | refine C_r ?_ | refine O_r ?_); (conv => whnf); first | refine B_o ?_ | refine fR ?_) | refine C_l (c1) ?_ | fail)
  all_goals exact ⟨rfl, rfl⟩
def actOk (a : Act) : Bool := (actN a.kind a.data).isSome
theorem actionR (a : Act) : Comp Try.prog 66 [.agg (a.row.map .d)] (bool (actOk a)) := by
  have c1 := actR a.kind a.data
  unfold actV valV at c1
  unfold actOk
  generalize actN a.kind a.data = o at *
  refine Spec.body (C := cx [] 11) fits (fn := Try.f66) Try.func66 rfl (by decide) (by decide) (gI ?_)
  repeat' (first | ((first | refine C_r ?_ | refine O_r ?_); (conv => whnf); first | (refine ⟨fun hb => ?_, fun hb => ?_⟩ <;> try exact no_way) | refine B_o ?_ | refine fR ?_) | refine C_l (c1) ?_ | fail)
  all_goals first | exact ⟨rfl, rfl⟩ | exact ⟨by rw [hb]; rfl, rfl⟩
def stepOk (s : Stp) : Bool := s.clauses.all (fun c => c.all halfOk) && actOk s.act
theorem stepOkR (s : Stp) (hl : s.clauses.length < 2 ^ 60) (hl2 : ∀ c ∈ s.clauses, c.length < 2 ^ 60) : Comp Try.prog 65 [.agg (s.row.map .d)] (bool (stepOk s)) := by
  generalize hfb : stepOk s = fb
  unfold stepOk at hfb
  obtain ⟨cl, a⟩ := s
  simp only at hfb hl hl2
  have c9 := actionR a
  have ch := halfRightR
  have hz : (cl.map crow).length = cl.length := by simp
  refine Spec.body (C := cx [] 28) fits (fn := Try.f65) Try.func65 rfl (by decide) (by decide) (gI ?_)
  repeat' (first | (refine C_r ?_; (conv => whnf); first | refine A_o ?_) | fail)
  refine wLoop [1, 8, 9, 10] 1 (cl.length + 1) ?_
  refine (fun key => key cl [] rfl hfb :
    (∀ (rest done : List (List Half)), cl = done ++ rest → (rest.all (fun c => c.all halfOk) && actOk a) = fb →
    WR2 _ _ _ _ _ (rest.length + 1) [(1, .one (.ptr 0 0)), (8, lst crow cl), (9, int .i64 (cl.map crow).length), (10, int .i64 done.length)] [.var [.d (.list (cl.map crow)), .d (.sc (.int .i64 a.kind)), .d (.sc (.int .i64 a.data))]]) → _) ?_
  clear hfb
  intro rest
  induction rest with
  | nil =>
    intro done g1 g2
    have hlen : cl.length = done.length := by rw [g1]; simp
    have g2 : actOk a = fb := g2
    have q : decide ((done.length : Int) < ((cl.map crow).length : Int)) = false := by rw [decide_eq_false_iff_not, hz]; omega
    rw [g2] at c9
    clear ch
    refine wR (gI ?_)
    repeat' (first | ((first | refine C_r ?_ | refine O_r ?_); (conv => whnf); first | (refine ⟨fun hb => ?_, fun hb => ?_⟩ <;> try exact no_way) | refine A_o ?_ | refine B_o ?_ | refine fR ?_) | refine C_l (c9) ?_ | fail)
    all_goals first | exact ⟨rfl, rfl⟩ | trace_state
  | cons c rest ih =>
    intro done g1 g2
    have hx : cl[done.length]? = some c := by rw [g1]; simp
    have hx : cl[((done.length : Int)).toNat]? = some c := hx
    have hlen : cl.length = done.length + (rest.length + 1) := by rw [g1]; simp
    have hcl := hl2 c (by rw [g1]; simp)
    have q : decide ((done.length : Int) < ((cl.map crow).length : Int)) = true := by rw [decide_eq_true_eq, hz]; omega
    have e7 : IntKind.i64.wrap ((done.length : Int) + 1) = ((done.length + 1 : Nat) : Int) := by rw [wrap_ok (by omega) (by omega)]; omega
    rw [List.all_cons] at g2
    have g := fun h => ih (done ++ [c]) (by rw [g1]; simp) h
    rw [show (done ++ [c]).length = done.length + 1 from by simp] at g
    have hzc : (c.map Half.row).length = c.length := by simp
    clear ih c9 hl2
    refine wR (gI ?_)
    repeat' (first | ((first | refine C_r ?_ | refine O_r ?_); (conv => whnf); first | (refine ⟨fun hb => ?_, fun hb => ?_⟩ <;> try exact no_way) | refine A_o ?_ | refine B_o ?_) | refine X_l ?_ | fail)
    refine wLoop [1, 8, 9, 10, 14, 15, 16] 1 (c.length + 1) ?_
    refine (fun key => key c [] rfl g2 :
      (∀ (rest2 done2 : List Half), c = done2 ++ rest2 → ((rest2.all halfOk && rest.all (fun c => c.all halfOk)) && actOk a) = fb →
      WR2 _ _ _ _ _ (rest2.length + 1) [(1, .one (.ptr 0 0)), (8, lst crow cl), (9, int .i64 (cl.map crow).length), (10, int .i64 done.length), (14, lst Half.row c), (15, int .i64 (c.map Half.row).length), (16, int .i64 done2.length)] [.var [.d (.list (cl.map crow)), .d (.sc (.int .i64 a.kind)), .d (.sc (.int .i64 a.data))]]) → _) ?_
    clear g2 hx g1
    intro rest2
    induction rest2 with
    | nil =>
      intro done2 k1 k2
      have hlen2 : c.length = done2.length := by rw [k1]; simp
      have q2 : decide ((done2.length : Int) < ((c.map Half.row).length : Int)) = false := by rw [decide_eq_false_iff_not, hzc]; omega
      have g := g k2
      clear ch
      refine wR (gI ?_)
      repeat' (first | ((first | refine C_r ?_ | refine O_r ?_); (conv => whnf); first | (refine ⟨fun hb => ?_, fun hb => ?_⟩ <;> try exact no_way) | refine A_o ?_ | refine R_o ?_) | fail)
      all_goals first | (rw [e7]; exact rE g) | trace_state
    | cons h rest2 ih2 =>
      intro done2 k1 k2
      have hx2 : c[done2.length]? = some h := by rw [k1]; simp
      have hx2 : c[((done2.length : Int)).toNat]? = some h := hx2
      have hlen2 : c.length = done2.length + (rest2.length + 1) := by rw [k1]; simp
      have q2 : decide ((done2.length : Int) < ((c.map Half.row).length : Int)) = true := by rw [decide_eq_true_eq, hzc]; omega
      have e8 : IntKind.i64.wrap ((done2.length : Int) + 1) = ((done2.length + 1 : Nat) : Int) := by rw [wrap_ok (by omega) (by omega)]; omega
      have c1 := ch h
      rw [List.all_cons] at k2
      cases hh : halfOk h with
      | true =>
        rw [hh] at c1 k2
        have g3 := ih2 (done2 ++ [h]) (by rw [k1]; simp) (by rw [← k2]; rfl)
        rw [show (done2 ++ [h]).length = done2.length + 1 from by simp] at g3
        clear ih2 ch g k2 k1
        refine wR (gI ?_)
        repeat' (first | ((first | refine C_r ?_ | refine O_r ?_); (conv => whnf); first | (refine ⟨fun hb => ?_, fun hb => ?_⟩ <;> try exact no_way) | refine B_o ?_ | refine R_o ?_) | refine C_l (c1) ?_ | refine X_l ?_ | fail)
        all_goals first | (rw [e8]; exact rE g3) | trace_state
      | false =>
        rw [hh] at c1 k2
        have k2 : false = fb := k2
        subst k2
        clear ih2 ch g k1
        refine wR (gI ?_)
        repeat' (first | ((first | refine C_r ?_ | refine O_r ?_); (conv => whnf); first | (refine ⟨fun hb => ?_, fun hb => ?_⟩ <;> try exact no_way) | refine B_o ?_ | refine fR ?_) | refine C_l (c1) ?_ | refine X_l ?_ | fail)
        all_goals first | exact ⟨rfl, rfl⟩ | trace_state
end Go.Proofs.Ytcplpllbinilmaa
/- Which spans may be: the program's, all of them. -/
namespace Go.Proofs.Ytcplpllbinilmaa
open Go Go.Am Go.Proofs
attribute [local irreducible] W WL DL WO RoundEnd
set_option maxRecDepth 10000
set_option maxHeartbeats 4000000
set_option linter.unusedVariables false
set_option linter.unusedSimpArgs false
/-- lists are no longer than memory allows -/
def Stp.small (s : Stp) : Prop := s.clauses.length < 2 ^ 60 ∧ ∀ c ∈ s.clauses, c.length < 2 ^ 60
def Span.small (x : Span) : Prop := (x.steps.length < 2 ^ 60 ∧ ∀ s ∈ x.steps, s.small) ∧ (0 ≤ x.lo ∧ x.lo < 2 ^ 32) ∧ (0 ≤ x.hi ∧ x.hi < 2 ^ 32)
def spanOk (x : Span) : Bool := x.steps.all stepOk && actOk x.act
theorem spanOkR (x : Span) (hs : x.small) : Comp Try.prog 55 [.agg (x.row.map .d)] (bool (spanOk x)) := by
  generalize hfb : spanOk x = fb
  unfold spanOk at hfb
  have c9 := actionR x.act
  have cs := fun (s : Stp) (h : s.small) => stepOkR s h.1 h.2
  obtain ⟨lo, hi, steps, a⟩ := x
  obtain ⟨⟨hl, hl2⟩, _⟩ := hs
  simp only at hfb hl hl2 c9
  have hz : (steps.map Stp.row).length = steps.length := by simp
  refine Spec.body (C := cx [] 19) fits (fn := Try.f55) Try.func55 rfl (by decide) (by decide) (gI ?_)
  repeat' (first | (refine C_r ?_; (conv => whnf); first | refine A_o ?_) | fail)
  refine wLoop [1, 6, 7, 8] 1 (steps.length + 1) ?_
  refine (fun key => key steps [] rfl hfb :
    (∀ (rest done : List Stp), steps = done ++ rest → (rest.all stepOk && actOk a) = fb →
    WR2 _ _ _ _ _ (rest.length + 1) [(1, .one (.ptr 0 0)), (6, lst Stp.row steps), (7, int .i64 (steps.map Stp.row).length), (8, int .i64 done.length)] [.var [.d (.sc (.int .u32 lo)), .d (.sc (.int .u32 hi)), .d (.list (steps.map Stp.row)), .d (.sc (.int .i64 a.kind)), .d (.sc (.int .i64 a.data))]]) → _) ?_
  clear hfb
  intro rest
  induction rest with
  | nil =>
    intro done g1 g2
    have hlen : steps.length = done.length := by rw [g1]; simp
    have g2 : actOk a = fb := g2
    have q : decide ((done.length : Int) < ((steps.map Stp.row).length : Int)) = false := by rw [decide_eq_false_iff_not, hz]; omega
    rw [g2] at c9
    clear cs
    refine wR (gI ?_)
    repeat' (first | ((first | refine C_r ?_ | refine O_r ?_); (conv => whnf); first | (refine ⟨fun hb => ?_, fun hb => ?_⟩ <;> try exact no_way) | refine A_o ?_ | refine B_o ?_ | refine fR ?_) | refine C_l (c9) ?_ | fail)
    all_goals first | exact ⟨rfl, rfl⟩ | trace_state
  | cons s rest ih =>
    intro done g1 g2
    have hx : steps[done.length]? = some s := by rw [g1]; simp
    have hx : steps[((done.length : Int)).toNat]? = some s := hx
    have hlen : steps.length = done.length + (rest.length + 1) := by rw [g1]; simp
    have q : decide ((done.length : Int) < ((steps.map Stp.row).length : Int)) = true := by rw [decide_eq_true_eq, hz]; omega
    have e7 : IntKind.i64.wrap ((done.length : Int) + 1) = ((done.length + 1 : Nat) : Int) := by rw [wrap_ok (by omega) (by omega)]; omega
    have c1 := cs s (hl2 s (by rw [g1]; simp))
    rw [List.all_cons] at g2
    cases hh : stepOk s with
    | true =>
      rw [hh] at c1 g2
      have g := ih (done ++ [s]) (by rw [g1]; simp) (by rw [← g2]; rfl)
      rw [show (done ++ [s]).length = done.length + 1 from by simp] at g
      clear ih cs c9 g2 g1 hl2
      refine wR (gI ?_)
      repeat' (first | ((first | refine C_r ?_ | refine O_r ?_); (conv => whnf); first | (refine ⟨fun hb => ?_, fun hb => ?_⟩ <;> try exact no_way) | refine B_o ?_ | refine R_o ?_) | refine C_l (c1) ?_ | refine X_l ?_ | fail)
      all_goals first | (rw [e7]; exact rE g) | trace_state
    | false =>
      rw [hh] at c1 g2
      have g2 : false = fb := g2
      subst g2
      clear ih cs c9 g1 hl2
      refine wR (gI ?_)
      repeat' (first | ((first | refine C_r ?_ | refine O_r ?_); (conv => whnf); first | (refine ⟨fun hb => ?_, fun hb => ?_⟩ <;> try exact no_way) | refine B_o ?_ | refine fR ?_) | refine C_l (c1) ?_ | refine X_l ?_ | fail)
      all_goals first | exact ⟨rfl, rfl⟩ | trace_state
/-- spans that may be, from a number on -/
def spansOk : Int → List Span → Bool
  | n, [] => n == 4294967296
  | n, x :: r => bif !(x.lo == n) then false else bif decide (x.hi < x.lo) then false else bif !spanOk x then false else spansOk (x.hi + 1) r
theorem rightSpR (l : List Span) (hl : l.length < 2 ^ 60) (hs : ∀ x ∈ l, x.small) : Comp Try.prog 37 [lst Span.row l] (bool (spansOk 0 l)) := by
  generalize hfb : spansOk 0 l = fb
  have hz : (l.map Span.row).length = l.length := by simp
  have cs := spanOkR
  refine Spec.body (C := cx [] 36) fits (fn := Try.f37) Try.func37 rfl (by decide) (by decide) (gI ?_)
  repeat' (first | (refine C_r ?_; (conv => whnf); first | refine A_o ?_) | fail)
  refine wLoop [3, 6, 7, 8] 0 (l.length + 1) ?_
  refine (fun key => key l [] 0 rfl hfb (by decide) :
    (∀ (rest done : List Span) (n : Int), l = done ++ rest → spansOk n rest = fb → (0 ≤ n ∧ n ≤ 4294967296) →
    WR2 _ _ _ _ _ (rest.length + 1) [(3, int .i64 n), (6, lst Span.row l), (7, int .i64 (l.map Span.row).length), (8, int .i64 done.length)] []) → _) ?_
  clear hfb
  intro rest
  induction rest with
  | nil =>
    intro done n g1 g2 g3
    have hlen : l.length = done.length := by rw [g1]; simp
    have g2 : (n == 4294967296) = fb := g2
    have q : decide ((done.length : Int) < ((l.map Span.row).length : Int)) = false := by rw [decide_eq_false_iff_not, hz]; omega
    clear cs
    refine wR (gI ?_)
    repeat' (first | ((first | refine C_r ?_ | refine O_r ?_); (conv => whnf); first | (refine ⟨fun hb => ?_, fun hb => ?_⟩ <;> try exact no_way) | refine A_o ?_ | refine fR ?_) | fail)
    all_goals first | exact ⟨by rw [← g2, hb]; rfl, rfl⟩ | trace_state
  | cons x rest ih =>
    intro done n g1 g2 g3
    have hx : l[done.length]? = some x := by rw [g1]; simp
    have hx : l[((done.length : Int)).toNat]? = some x := hx
    have hlen : l.length = done.length + (rest.length + 1) := by rw [g1]; simp
    have hsx := hs x (by rw [g1]; simp)
    have q : decide ((done.length : Int) < ((l.map Span.row).length : Int)) = true := by rw [decide_eq_true_eq, hz]; omega
    have e7 : IntKind.i64.wrap ((done.length : Int) + 1) = ((done.length + 1 : Nat) : Int) := by rw [wrap_ok (by omega) (by omega)]; omega
    have w1 : IntKind.i64.wrap x.lo = x.lo := wrap_ok hsx.2.1.1 (by have := hsx.2.1.2; omega)
    have w2 : IntKind.i64.wrap (IntKind.i64.wrap x.hi + 1) = x.hi + 1 := by
      have := hsx.2.2
      rw [wrap_ok (n := x.hi) (by omega) (by omega), wrap_ok (by omega) (by omega)]
    have c1 := cs x hsx
    rw [spansOk] at g2
    cases k1 : (!(x.lo == n)) with
    | true =>
      rw [k1, cond_true] at g2
      subst g2
      have k1' : (!(IntKind.i64.wrap x.lo == n)) = true := by rw [w1]; exact k1
      clear ih cs g1 hs c1
      refine wR (gI ?_)
      repeat' (first | ((first | refine C_r ?_ | refine O_r ?_); (conv => whnf); first | (refine ⟨fun hb => ?_, fun hb => ?_⟩ <;> try exact no_way) | refine B_o ?_ | refine fR ?_) | refine X_l ?_ | fail)
      all_goals first | exact ⟨rfl, rfl⟩ | trace_state
    | false =>
    rw [k1, cond_false] at g2
    have k1' : (!(IntKind.i64.wrap x.lo == n)) = false := by rw [w1]; exact k1
    cases k2 : decide (x.hi < x.lo) with
    | true =>
      rw [k2, cond_true] at g2
      subst g2
      clear ih cs g1 hs c1
      refine wR (gI ?_)
      repeat' (first | ((first | refine C_r ?_ | refine O_r ?_); (conv => whnf); first | (refine ⟨fun hb => ?_, fun hb => ?_⟩ <;> try exact no_way) | refine B_o ?_ | refine fR ?_) | refine X_l ?_ | fail)
      all_goals first | exact ⟨rfl, rfl⟩ | trace_state
    | false =>
    rw [k2, cond_false] at g2
    cases k3 : spanOk x with
    | false =>
      rw [k3] at g2 c1
      have g2 : false = fb := g2
      subst g2
      clear ih cs g1 hs
      refine wR (gI ?_)
      repeat' (first | ((first | refine C_r ?_ | refine O_r ?_); (conv => whnf); first | (refine ⟨fun hb => ?_, fun hb => ?_⟩ <;> try exact no_way) | refine B_o ?_ | refine fR ?_) | refine C_l (c1) ?_ | refine X_l ?_ | fail)
      all_goals first | exact ⟨rfl, rfl⟩ | trace_state
    | true =>
      rw [k3] at g2 c1
      have g := ih (done ++ [x]) (x.hi + 1) (by rw [g1]; simp) g2 (by have := hsx.2.2; omega)
      rw [show (done ++ [x]).length = done.length + 1 from by simp, ← w2] at g
      clear ih cs g2 g1 hs w2
      refine wR (gI ?_)
      repeat' (first | ((first | refine C_r ?_ | refine O_r ?_); (conv => whnf); first | (refine ⟨fun hb => ?_, fun hb => ?_⟩ <;> try exact no_way) | refine B_o ?_ | refine R_o ?_) | refine C_l (c1) ?_ | refine X_l ?_ | fail)
      all_goals first | (rw [e7]; exact rE g) | trace_state
end Go.Proofs.Ytcplpllbinilmaa
/- Which spans may be: the document's. -/
namespace Go.Proofs.Ytcplpllbinilmaa
open Go Go.Am Go.Proofs
attribute [local irreducible] W WL DL WO RoundEnd
set_option maxRecDepth 10000
set_option maxHeartbeats 4000000
set_option linter.unusedVariables false
set_option linter.unusedSimpArgs false
theorem may_not (a o : Int) : mayF a o = !(decide (a < 0) || (decide (a > 5) || (decide (o < 1) || decide (o > 6)))) := by
  unfold mayF
  have e1 : decide (a ≥ 0) = !decide (a < 0) := by rw [Bool.eq_iff_iff, decide_eq_true_eq, Bool.not_eq_true', decide_eq_false_iff_not]; omega
  have e2 : decide (a ≤ 5) = !decide (a > 5) := by rw [Bool.eq_iff_iff, decide_eq_true_eq, Bool.not_eq_true', decide_eq_false_iff_not]; omega
  have e3 : decide (o ≥ 1) = !decide (o < 1) := by rw [Bool.eq_iff_iff, decide_eq_true_eq, Bool.not_eq_true', decide_eq_false_iff_not]; omega
  have e4 : decide (o ≤ 6) = !decide (o > 6) := by rw [Bool.eq_iff_iff, decide_eq_true_eq, Bool.not_eq_true', decide_eq_false_iff_not]; omega
  rw [e1, e2, e3, e4]
  cases decide (a < 0) <;> cases decide (a > 5) <;> cases decide (o < 1) <;> cases decide (o > 6) <;> rfl
theorem refRightR (l : List Stp) (hl : l.length < 2 ^ 60) (hs : ∀ s ∈ l, s.small) : Comp Try.prog 43 [lst Stp.row l] (bool (l.all stepOk)) := by
  generalize hfb : l.all stepOk = fb
  have hz : (l.map Stp.row).length = l.length := by simp
  have cs := fun (a : Act) => refActR a.kind a.data
  unfold actV valV at cs
  refine Spec.body (C := cx [] 78) fits (fn := Try.f43) Try.func43 rfl (by decide) (by decide) (gI ?_)
  repeat' (first | (refine C_r ?_; (conv => whnf); first | refine A_o ?_) | fail)
  refine wLoop [0, 3] 0 (l.length + 1) ?_
  refine (fun key => key l [] rfl hfb :
    (∀ (rest done : List Stp), l = done ++ rest → rest.all stepOk = fb →
    WR2 _ _ _ _ _ (rest.length + 1) [(0, lst Stp.row l), (3, int .i64 done.length)] []) → _) ?_
  clear hfb
  intro rest
  induction rest with
  | nil =>
    intro done g1 g2
    have hlen : l.length = done.length := by rw [g1]; simp
    have g2 : true = fb := g2
    subst g2
    have q : decide ((done.length : Int) < ((l.map Stp.row).length : Int)) = false := by rw [decide_eq_false_iff_not, hz]; omega
    clear cs
    refine wR (gI ?_)
    repeat' (first | ((first | refine C_r ?_ | refine O_r ?_); (conv => whnf); first | (refine ⟨fun hb => ?_, fun hb => ?_⟩ <;> try exact no_way) | refine A_o ?_ | refine fR ?_) | fail)
    all_goals first | exact ⟨rfl, rfl⟩ | trace_state
  | cons s rest ih =>
    intro done g1 g2
    have hx : l[done.length]? = some s := by rw [g1]; simp
    have hx : l[((done.length : Int)).toNat]? = some s := hx
    have hlen : l.length = done.length + (rest.length + 1) := by rw [g1]; simp
    have hsx := hs s (by rw [g1]; simp)
    have q : decide ((done.length : Int) < ((l.map Stp.row).length : Int)) = true := by rw [decide_eq_true_eq, hz]; omega
    have e7 : IntKind.i64.wrap ((done.length : Int) + 1) = ((done.length + 1 : Nat) : Int) := by rw [wrap_ok (by omega) (by omega)]; omega
    have c1 := cs s.act
    rw [List.all_cons] at g2
    unfold stepOk actOk at g2
    have g := fun h => ih (done ++ [s]) (by rw [g1]; simp) h
    rw [show (done ++ [s]).length = done.length + 1 from by simp] at g
    clear ih hs g1 cs
    generalize actN s.act.kind s.act.data = o at *
    cases ho : o.isSome with
    | false =>
      rw [ho] at c1 g2
      rw [Bool.and_false, Bool.false_and] at g2
      subst g2
      clear g
      refine wR (gI ?_)
      repeat' (first | ((first | refine C_r ?_ | refine O_r ?_); (conv => whnf); first | (refine ⟨fun hb => ?_, fun hb => ?_⟩ <;> try exact no_way) | refine B_o ?_ | refine fR ?_) | refine C_l (c1) ?_ | refine X_l ?_ | fail)
      all_goals first | exact ⟨rfl, rfl⟩ | trace_state
    | true =>
      rw [ho] at c1 g2
      rw [Bool.and_true] at g2
      have hzc : (s.clauses.map crow).length = s.clauses.length := by simp
      refine wR (gI ?_)
      repeat' (first | ((first | refine C_r ?_ | refine O_r ?_); (conv => whnf); first | (refine ⟨fun hb => ?_, fun hb => ?_⟩ <;> try exact no_way) | refine A_o ?_ | refine B_o ?_) | refine C_l (c1) ?_ | refine X_l ?_ | fail)
      clear c1
      refine wLoop [0, 3, 6] 0 (s.clauses.length + 1) ?_
      refine (fun key => key s.clauses [] rfl g2 :
        (∀ (rest2 done2 : List (List Half)), s.clauses = done2 ++ rest2 → (rest2.all (fun c => c.all halfOk) && rest.all stepOk) = fb →
        WR2 _ _ _ _ _ (rest2.length + 1) [(0, lst Stp.row l), (3, int .i64 done.length), (6, int .i64 done2.length)] []) → _) ?_
      clear g2
      intro rest2
      induction rest2 with
      | nil =>
        intro done2 k1 k2
        have hlen2 : s.clauses.length = done2.length := by rw [k1]; simp
        have q2 : decide ((done2.length : Int) < ((s.clauses.map crow).length : Int)) = false := by rw [decide_eq_false_iff_not, hzc]; omega
        have g := g k2
        refine wR (gI ?_)
        repeat' (first | ((first | refine C_r ?_ | refine O_r ?_); (conv => whnf); first | (refine ⟨fun hb => ?_, fun hb => ?_⟩ <;> try exact no_way) | refine A_o ?_ | refine B_o ?_ | refine R_o ?_) | refine X_l ?_ | fail)
        all_goals first | (rw [e7]; exact rE g) | trace_state
      | cons c rest2 ih2 =>
        intro done2 k1 k2
        have hx2 : s.clauses[done2.length]? = some c := by rw [k1]; simp
        have hx2 : s.clauses[((done2.length : Int)).toNat]? = some c := hx2
        have hlen2 : s.clauses.length = done2.length + (rest2.length + 1) := by rw [k1]; simp
        have hcl := hsx.2 c (by rw [k1]; simp)
        have hsl := hsx.1
        have q2 : decide ((done2.length : Int) < ((s.clauses.map crow).length : Int)) = true := by rw [decide_eq_true_eq, hzc]; omega
        have e8 : IntKind.i64.wrap ((done2.length : Int) + 1) = ((done2.length + 1 : Nat) : Int) := by rw [wrap_ok (by omega) (by omega)]; omega
        rw [List.all_cons] at k2
        have g3 := fun h => ih2 (done2 ++ [c]) (by rw [k1]; simp) h
        rw [show (done2 ++ [c]).length = done2.length + 1 from by simp] at g3
        have hzh : (c.map Half.row).length = c.length := by simp
        clear ih2 g k1
        refine wR (gI ?_)
        repeat' (first | ((first | refine C_r ?_ | refine O_r ?_); (conv => whnf); first | (refine ⟨fun hb => ?_, fun hb => ?_⟩ <;> try exact no_way) | refine A_o ?_ | refine B_o ?_) | refine X_l ?_ | fail)
        refine wLoop [0, 3, 6, 7] 0 (c.length + 1) ?_
        refine (fun key => key c [] rfl k2 :
          (∀ (rest3 done3 : List Half), c = done3 ++ rest3 → ((rest3.all halfOk && rest2.all (fun c => c.all halfOk)) && rest.all stepOk) = fb →
          WR2 _ _ _ _ _ (rest3.length + 1) [(0, lst Stp.row l), (3, int .i64 done.length), (6, int .i64 done2.length), (7, int .i64 done3.length)] []) → _) ?_
        clear k2
        intro rest3
        induction rest3 with
        | nil =>
          intro done3 m1 m2
          have hlen3 : c.length = done3.length := by rw [m1]; simp
          have q3 : decide ((done3.length : Int) < ((c.map Half.row).length : Int)) = false := by rw [decide_eq_false_iff_not, hzh]; omega
          have g3 := g3 m2
          refine wR (gI ?_)
          repeat' (first | ((first | refine C_r ?_ | refine O_r ?_); (conv => whnf); first | (refine ⟨fun hb => ?_, fun hb => ?_⟩ <;> try exact no_way) | refine A_o ?_ | refine B_o ?_ | refine R_o ?_) | refine X_l ?_ | fail)
          all_goals first | (rw [e8]; exact rE g3) | trace_state
        | cons h rest3 ih3 =>
          intro done3 m1 m2
          have hx3 : c[done3.length]? = some h := by rw [m1]; simp
          have hx3 : c[((done3.length : Int)).toNat]? = some h := hx3
          have hlen3 : c.length = done3.length + (rest3.length + 1) := by rw [m1]; simp
          have q3 : decide ((done3.length : Int) < ((c.map Half.row).length : Int)) = true := by rw [decide_eq_true_eq, hzh]; omega
          have e9 : IntKind.i64.wrap ((done3.length : Int) + 1) = ((done3.length + 1 : Nat) : Int) := by rw [wrap_ok (by omega) (by omega)]; omega
          rw [List.all_cons] at m2
          have hm : halfOk h = !(decide (h.arg < 0) || (decide (h.arg > 5) || (decide (h.op < 1) || decide (h.op > 6)))) := may_not h.arg h.op
          cases hh : halfOk h with
          | false =>
            rw [hh] at m2 hm
            have m2 : false = fb := m2
            subst m2
            have hm := hm.symm
            rw [Bool.not_eq_false'] at hm
            clear ih3 g3 m1 hh
            refine wR (gI ?_)
            repeat' (first | ((first | refine C_r ?_ | refine O_r ?_); (conv => whnf); first | (refine ⟨fun hb => ?_, fun hb => ?_⟩ <;> try exact no_way) | refine B_o ?_ | refine R_o ?_ | refine fR ?_) | refine X_l ?_ | fail)
            all_goals first | exact ⟨rfl, rfl⟩ | (exfalso; clear q q2 q3 e7 e8 e9 hsx; simp only [Bool.or_eq_true, decide_eq_true_eq, decide_eq_false_iff_not] at *; omega) | trace_state
          | true =>
            rw [hh] at m2 hm
            have hm := hm.symm
            rw [Bool.not_eq_true', Bool.or_eq_false_iff, Bool.or_eq_false_iff, Bool.or_eq_false_iff] at hm
            obtain ⟨n1, n2, n3, n4⟩ := hm
            have g4 := ih3 (done3 ++ [h]) (by rw [m1]; simp) (by rw [← m2]; rfl)
            rw [show (done3 ++ [h]).length = done3.length + 1 from by simp] at g4
            clear ih3 g3 m1 m2 hh
            refine wR (gI ?_)
            repeat' (first | ((first | refine C_r ?_ | refine O_r ?_); (conv => whnf); first | (refine ⟨fun hb => ?_, fun hb => ?_⟩ <;> try exact no_way) | refine B_o ?_ | refine R_o ?_) | refine X_l ?_ | fail)
            all_goals first | (rw [e9]; exact rE g4) | trace_state
theorem refSpansR (l : List Span) (hl : l.length < 2 ^ 60) (hs : ∀ x ∈ l, x.small) : Comp Try.prog 19 [lst Span.row l] (bool (spansOk 0 l)) := by
  generalize hfb : spansOk 0 l = fb
  have hz : (l.map Span.row).length = l.length := by simp
  have cr := fun (l : List Stp) (h1 : l.length < 2 ^ 60) (h2 : ∀ s ∈ l, s.small) => refRightR l h1 h2
  have cs := fun (a : Act) => refActR a.kind a.data
  unfold actV valV at cs
  refine Spec.body (C := cx [] 63) fits (fn := Try.f19) Try.func19 rfl (by decide) (by decide) (gI ?_)
  repeat' (first | (refine C_r ?_; (conv => whnf); first | refine A_o ?_) | fail)
  refine wLoop [0, 3, 4] 0 (l.length + 1) ?_
  refine (fun key => key l [] 0 rfl hfb (by decide) :
    (∀ (rest done : List Span) (n : Int), l = done ++ rest → spansOk n rest = fb → (0 ≤ n ∧ n ≤ 4294967296) →
    WR2 _ _ _ _ _ (rest.length + 1) [(0, lst Span.row l), (3, int .u64 n), (4, int .i64 done.length)] []) → _) ?_
  clear hfb
  intro rest
  induction rest with
  | nil =>
    intro done n g1 g2 g3
    have hlen : l.length = done.length := by rw [g1]; simp
    have g2 : (n == 4294967296) = fb := g2
    have q : decide ((done.length : Int) < ((l.map Span.row).length : Int)) = false := by rw [decide_eq_false_iff_not, hz]; omega
    clear cs cr
    refine wR (gI ?_)
    repeat' (first | ((first | refine C_r ?_ | refine O_r ?_); (conv => whnf); first | (refine ⟨fun hb => ?_, fun hb => ?_⟩ <;> try exact no_way) | refine A_o ?_ | refine fR ?_) | fail)
    all_goals first | exact ⟨by rw [← g2, hb]; rfl, rfl⟩ | trace_state
  | cons x rest ih =>
    intro done n g1 g2 g3
    have hx : l[done.length]? = some x := by rw [g1]; simp
    have hx : l[((done.length : Int)).toNat]? = some x := hx
    have hlen : l.length = done.length + (rest.length + 1) := by rw [g1]; simp
    have hsx := hs x (by rw [g1]; simp)
    have q : decide ((done.length : Int) < ((l.map Span.row).length : Int)) = true := by rw [decide_eq_true_eq, hz]; omega
    have e7 : IntKind.i64.wrap ((done.length : Int) + 1) = ((done.length + 1 : Nat) : Int) := by rw [wrap_ok (by omega) (by omega)]; omega
    have w1 : IntKind.u64.wrap x.lo = x.lo := wrap_u64 hsx.2.1.1 (by have := hsx.2.1.2; omega)
    have w2 : IntKind.u64.wrap (IntKind.u64.wrap x.hi + 1) = x.hi + 1 := by
      have := hsx.2.2
      rw [wrap_u64 (n := x.hi) (by omega) (by omega), wrap_u64 (by omega) (by omega)]
    have c1 := cr x.steps hsx.1.1 hsx.1.2
    have c2 := cs x.act
    rw [spansOk] at g2
    cases k1 : (!(x.lo == n)) with
    | true =>
      rw [k1, cond_true] at g2
      subst g2
      have k1' : (!(IntKind.u64.wrap x.lo == n)) = true := by rw [w1]; exact k1
      clear ih cs cr g1 hs c1 c2
      refine wR (gI ?_)
      repeat' (first | ((first | refine C_r ?_ | refine O_r ?_ | refine R_r ?_); (conv => whnf); first | (refine ⟨fun hb => ?_, fun hb => ?_⟩ <;> try exact no_way) | refine C_o ?_ | refine fR ?_) | refine X_d ?_ | fail)
      all_goals first | exact ⟨rfl, rfl⟩ | trace_state
    | false =>
    rw [k1, cond_false] at g2
    have k1' : (!(IntKind.u64.wrap x.lo == n)) = false := by rw [w1]; exact k1
    cases k2 : decide (x.hi < x.lo) with
    | true =>
      rw [k2, cond_true] at g2
      subst g2
      clear ih cs cr g1 hs c1 c2
      refine wR (gI ?_)
      repeat' (first | ((first | refine C_r ?_ | refine O_r ?_ | refine R_r ?_); (conv => whnf); first | (refine ⟨fun hb => ?_, fun hb => ?_⟩ <;> try exact no_way) | refine C_o ?_ | refine fR ?_) | refine X_d ?_ | fail)
      all_goals first | exact ⟨rfl, rfl⟩ | trace_state
    | false =>
    rw [k2, cond_false] at g2
    unfold spanOk actOk at g2
    cases k3 : x.steps.all stepOk with
    | false =>
      rw [k3] at g2 c1
      have g2 : false = fb := g2
      subst g2
      clear ih cs cr g1 hs c2
      refine wR (gI ?_)
      repeat' (first | ((first | refine C_r ?_ | refine O_r ?_ | refine R_r ?_); (conv => whnf); first | (refine ⟨fun hb => ?_, fun hb => ?_⟩ <;> try exact no_way) | refine C_o ?_ | refine fR ?_) | refine C_d (c1) ?_ | refine X_d ?_ | fail)
      all_goals first | exact ⟨rfl, rfl⟩ | trace_state
    | true =>
    rw [k3, Bool.true_and] at g2
    rw [k3] at c1
    generalize actN x.act.kind x.act.data = o at *
    cases k4 : o.isSome with
    | false =>
      rw [k4] at g2 c2
      have g2 : false = fb := g2
      subst g2
      clear ih cs cr g1 hs k3
      refine wR (gI ?_)
      repeat' (first | ((first | refine C_r ?_ | refine O_r ?_ | refine R_r ?_); (conv => whnf); first | (refine ⟨fun hb => ?_, fun hb => ?_⟩ <;> try exact no_way) | refine B_o ?_ | refine C_o ?_ | refine fR ?_) | refine C_l (c2) ?_ | refine X_l ?_ | refine C_d (c1) ?_ | refine X_d ?_ | fail)
      all_goals first | exact ⟨rfl, rfl⟩ | trace_state
    | true =>
      rw [k4] at g2 c2
      have g := ih (done ++ [x]) (x.hi + 1) (by rw [g1]; simp) g2 (by have := hsx.2.2; omega)
      rw [show (done ++ [x]).length = done.length + 1 from by simp, ← w2] at g
      clear ih cs cr g2 g1 hs w2 k3
      refine wR (gI ?_)
      repeat' (first | ((first | refine C_r ?_ | refine O_r ?_ | refine R_r ?_); (conv => whnf); first | (refine ⟨fun hb => ?_, fun hb => ?_⟩ <;> try exact no_way) | refine B_o ?_ | refine C_o ?_ | refine R_o ?_) | refine C_l (c2) ?_ | refine X_l ?_ | refine C_d (c1) ?_ | refine X_d ?_ | fail)
      all_goals first | (rw [e7]; exact rE g) | trace_state
end Go.Proofs.Ytcplpllbinilmaa
/- Few spans. -/
namespace Go.Proofs.Ytcplpllbinilmaa
open Go Go.Am Go.Proofs
attribute [local irreducible] W WL DL WO RoundEnd
set_option maxRecDepth 10000
set_option maxHeartbeats 4000000
set_option linter.unusedVariables false
set_option linter.unusedSimpArgs false
def fewC : List (List Half) → Int → Int
  | [], n => n
  | c :: r, n => bif decide (n < 1000) then fewC r (n + 1 + c.length) else n
def fewS : List Stp → Int → Option Int
  | [], n => some n
  | s :: r, n => bif decide (n < 1000) then (bif decide (fewC s.clauses 0 ≤ 120) then fewS r (n + s.clauses.length) else none) else some n
def fewL : List Span → Int → Option Int
  | [], n => some n
  | x :: r, n => bif decide (n < 1000) then (match fewS x.steps (n + 1 + x.steps.length) with
      | none => none
      | some m => fewL r m) else some n
def fewB (l : List Span) : Bool := match fewL l 0 with
  | none => false
  | some n => decide (n ≤ 60)
theorem fewC_eq : ∀ (l : List (List Half)) (n : Int), fewC l n ≤ 120 → n + clausesC l ≤ 120
  | [], n, h => by rw [fewC] at h; simp only [clausesC]; omega
  | c :: r, n, h => by
    rw [fewC] at h
    cases hn : decide (n < 1000) with
    | false => rw [hn] at h; rw [decide_eq_false_iff_not] at hn; simp only [cond_false] at h; omega
    | true =>
      rw [hn] at h
      simp only [cond_true] at h
      have := fewC_eq r _ h
      rw [clausesC]; omega
theorem clausesC_len : ∀ l : List (List Half), l.length ≤ clausesC l
  | [] => Nat.le_refl _
  | c :: r => by
    have := clausesC_len r
    rw [clausesC, List.length_cons]; omega
theorem fewS_eq : ∀ (l : List Stp) (n m : Int), fewS l n = some m → m ≤ 60 → (stepsC l ≤ 121 * l.length) ∧ n ≤ m ∧ stepsN l = 2 * l.length + (m - n)
  | [], n, m, h, _ => by
    rw [fewS] at h; injection h with h; subst h
    refine ⟨by simp [stepsC], Int.le_refl _, by simp [stepsN]⟩
  | s :: r, n, m, h, hm => by
    rw [fewS] at h
    cases hn : decide (n < 1000) with
    | false =>
      rw [hn] at h; rw [decide_eq_false_iff_not] at hn
      simp only [cond_false, Option.some.injEq] at h; omega
    | true =>
      rw [hn] at h
      simp only [cond_true] at h
      cases hc : decide (fewC s.clauses 0 ≤ 120) with
      | false => rw [hc] at h; cases h
      | true =>
        rw [hc] at h
        simp only [cond_true] at h
        rw [decide_eq_true_eq] at hc
        have hcc := fewC_eq s.clauses 0 hc
        obtain ⟨i1, i2, i3⟩ := fewS_eq r _ m h hm
        rw [stepsC, stepsN, List.length_cons]
        unfold stepN
        exact ⟨by omega, by omega, by omega⟩
theorem fewL_eq : ∀ (l : List Span) (n m : Int), fewL l n = some m → m ≤ 60 → n + l.length ≤ m ∧ (partsC l : Int) ≤ 130 * (m - n) ∧ spansN l ≤ 3 * (m - n)
  | [], n, m, h, _ => by
    rw [fewL] at h; injection h with h; subst h
    simp [partsC, spansN]
  | x :: r, n, m, h, hm => by
    rw [fewL] at h
    cases hn : decide (n < 1000) with
    | false =>
      rw [hn] at h; rw [decide_eq_false_iff_not] at hn
      simp only [cond_false, Option.some.injEq] at h; omega
    | true =>
      rw [hn] at h
      simp only [cond_true] at h
      cases hs : fewS x.steps (n + 1 + x.steps.length) with
      | none => rw [hs] at h; cases h
      | some n' =>
        rw [hs] at h
        simp only at h
        obtain ⟨i1, i2, i3⟩ := fewL_eq r n' m h hm
        obtain ⟨j1, j2, j3⟩ := fewS_eq x.steps _ n' hs (by omega)
        rw [partsC, spansN, List.length_cons]
        exact ⟨by omega, by omega, by omega⟩
theorem few_eq {l : List Span} (h : fewB l = true) : l.length ≤ 60 ∧ partsC l ≤ 7800 ∧ spansN l ≤ 180 := by
  unfold fewB at h
  cases hl : fewL l 0 with
  | none => rw [hl] at h; cases h
  | some m =>
    rw [hl] at h
    simp only [decide_eq_true_eq] at h
    obtain ⟨h1, h2, h3⟩ := fewL_eq l 0 m hl h
    exact ⟨by omega, by omega, by omega⟩
theorem few21R (l : List (List Half)) (hl : l.length < 2 ^ 60) (hl2 : ∀ c ∈ l, c.length < 2 ^ 60) : Comp Try.prog 36 [lst crow l] (bool (decide (fewC l 0 ≤ 120))) := by
  generalize hfb : fewC l 0 = fb
  have hz : (l.map crow).length = l.length := by simp
  refine Spec.body (C := cx [] 25) fits (fn := Try.f36) Try.func36 rfl (by decide) (by decide) (gI ?_)
  repeat' (first | (refine C_r ?_; (conv => whnf); first | refine A_o ?_) | fail)
  refine wLoop [0, 3, 4] 0 (l.length + 1) ?_
  refine (fun key => key l [] 0 rfl hfb (by decide) :
    (∀ (rest done : List (List Half)) (n : Int), l = done ++ rest → fewC rest n = fb → (0 ≤ n ∧ n < 2 ^ 61) →
    WR2 _ _ _ _ _ (rest.length + 1) [(0, lst crow l), (3, int .i64 n), (4, int .i64 done.length)] []) → _) ?_
  clear hfb
  intro rest
  induction rest with
  | nil =>
    intro done n g1 g2 g3
    have hlen : l.length = done.length := by rw [g1]; simp
    have g2 : n = fb := g2
    subst g2
    have q : decide ((done.length : Int) < ((l.map crow).length : Int)) = false := by rw [decide_eq_false_iff_not, hz]; omega
    refine wR (gI ?_)
    repeat' (first | ((first | refine C_r ?_ | refine O_r ?_); (conv => whnf); first | (refine ⟨fun hb => ?_, fun hb => ?_⟩ <;> try exact no_way) | refine A_o ?_ | refine fR ?_) | fail)
    all_goals first | exact ⟨by rw [hb]; rfl, rfl⟩ | exact ⟨rfl, rfl⟩ | trace_state
  | cons c rest ih =>
    intro done n g1 g2 g3
    have hx : l[done.length]? = some c := by rw [g1]; simp
    have hx : l[((done.length : Int)).toNat]? = some c := hx
    have hlen : l.length = done.length + (rest.length + 1) := by rw [g1]; simp
    have hcl := hl2 c (by rw [g1]; simp)
    have hzc : (c.map Half.row).length = c.length := by simp
    have q : decide ((done.length : Int) < ((l.map crow).length : Int)) = true := by rw [decide_eq_true_eq, hz]; omega
    have e7 : IntKind.i64.wrap ((done.length : Int) + 1) = ((done.length + 1 : Nat) : Int) := by rw [wrap_ok (by omega) (by omega)]; omega
    rw [fewC] at g2
    cases k1 : decide (n < 1000) with
    | false =>
      rw [k1, cond_false] at g2
      subst g2
      clear ih g1
      refine wR (gI ?_)
      repeat' (first | ((first | refine C_r ?_ | refine O_r ?_); (conv => whnf); first | (refine ⟨fun hb => ?_, fun hb => ?_⟩ <;> try exact no_way) | refine A_o ?_ | refine fR ?_) | fail)
      all_goals first | exact ⟨by rw [hb]; rfl, rfl⟩ | exact ⟨rfl, rfl⟩ | trace_state
    | true =>
      rw [k1, cond_true] at g2
      have k1' : n < 1000 := by simpa using k1
      have w2 : IntKind.i64.wrap (IntKind.i64.wrap (n + 1) + ((c.map Half.row).length : Int)) = n + 1 + c.length := by
        rw [hzc, wrap_ok (n := n + 1) (by omega) (by omega), wrap_ok (by omega) (by omega)]
      have g := ih (done ++ [c]) _ (by rw [g1]; simp) g2 (by omega)
      rw [show (done ++ [c]).length = done.length + 1 from by simp, ← w2] at g
      clear ih g2 g1 w2
      refine wR (gI ?_)
      repeat' (first | ((first | refine C_r ?_ | refine O_r ?_); (conv => whnf); first | (refine ⟨fun hb => ?_, fun hb => ?_⟩ <;> try exact no_way) | refine B_o ?_ | refine R_o ?_) | refine X_l ?_ | fail)
      all_goals first | (rw [e7]; exact rE g) | trace_state
end Go.Proofs.Ytcplpllbinilmaa
/- Few spans: the law's own count. -/
namespace Go.Proofs.Ytcplpllbinilmaa
open Go Go.Am Go.Proofs
attribute [local irreducible] W WL DL WO RoundEnd
set_option maxRecDepth 10000
set_option maxHeartbeats 4000000
set_option linter.unusedVariables false
set_option linter.unusedSimpArgs false
def fewO (o : Option Int) : Bool := match o with
  | none => false
  | some n => decide (n ≤ 60)
theorem few25R (l : List Span) (hl : l.length < 2 ^ 60) (hs : ∀ x ∈ l, x.small) : Comp Try.prog 17 [lst Span.row l] (bool (fewB l)) := by
  have hfb0 : fewB l = fewO (fewL l 0) := rfl
  rw [hfb0]
  generalize hfb : fewO (fewL l 0) = fb
  clear hfb0
  have hz : (l.map Span.row).length = l.length := by simp
  have cf := fun (l : List (List Half)) (h1 : l.length < 2 ^ 60) (h2 : ∀ c ∈ l, c.length < 2 ^ 60) => few21R l h1 h2
  refine Spec.body (C := cx [] 64) fits (fn := Try.f17) Try.func17 rfl (by decide) (by decide) (gI ?_)
  repeat' (first | (refine C_r ?_; (conv => whnf); first | refine A_o ?_) | fail)
  refine wLoop [0, 3, 4] 0 (l.length + 1) ?_
  refine (fun key => key l [] 0 rfl hfb (by decide) :
    (∀ (rest done : List Span) (n : Int), l = done ++ rest → fewO (fewL rest n) = fb → (0 ≤ n ∧ n < 2 ^ 62) →
    WR2 _ _ _ _ _ (rest.length + 1) [(0, lst Span.row l), (3, int .i64 n), (4, int .i64 done.length)] []) → _) ?_
  clear hfb
  intro rest
  induction rest with
  | nil =>
    intro done n g1 g2 g3
    have hlen : l.length = done.length := by rw [g1]; simp
    have g2 : decide (n ≤ 60) = fb := g2
    have q : decide ((done.length : Int) < ((l.map Span.row).length : Int)) = false := by rw [decide_eq_false_iff_not, hz]; omega
    clear cf
    refine wR (gI ?_)
    repeat' (first | ((first | refine C_r ?_ | refine O_r ?_); (conv => whnf); first | (refine ⟨fun hb => ?_, fun hb => ?_⟩ <;> try exact no_way) | refine A_o ?_ | refine fR ?_) | fail)
    all_goals first | exact ⟨by rw [← g2, hb]; rfl, rfl⟩ | trace_state
  | cons x rest ih =>
    intro done n g1 g2 g3
    have hx : l[done.length]? = some x := by rw [g1]; simp
    have hx : l[((done.length : Int)).toNat]? = some x := hx
    have hlen : l.length = done.length + (rest.length + 1) := by rw [g1]; simp
    have hsx := hs x (by rw [g1]; simp)
    have hzs : (x.steps.map Stp.row).length = x.steps.length := by simp
    have hsl := hsx.1.1
    have hss := hsx.1.2
    have q : decide ((done.length : Int) < ((l.map Span.row).length : Int)) = true := by rw [decide_eq_true_eq, hz]; omega
    have e7 : IntKind.i64.wrap ((done.length : Int) + 1) = ((done.length + 1 : Nat) : Int) := by rw [wrap_ok (by omega) (by omega)]; omega
    rw [fewL] at g2
    cases k1 : decide (n < 1000) with
    | false =>
      rw [k1, cond_false] at g2
      have g2 : decide (n ≤ 60) = fb := g2
      clear ih g1 cf
      refine wR (gI ?_)
      repeat' (first | ((first | refine C_r ?_ | refine O_r ?_); (conv => whnf); first | (refine ⟨fun hb => ?_, fun hb => ?_⟩ <;> try exact no_way) | refine A_o ?_ | refine fR ?_) | fail)
      all_goals first | exact ⟨by rw [← g2, hb]; rfl, rfl⟩ | trace_state
    | true =>
      rw [k1, cond_true] at g2
      have k1' : n < 1000 := by simpa using k1
      have w2 : IntKind.i64.wrap (IntKind.i64.wrap (n + 1) + ((x.steps.map Stp.row).length : Int)) = n + 1 + x.steps.length := by
        rw [hzs, wrap_ok (n := n + 1) (by omega) (by omega), wrap_ok (by omega) (by omega)]
      have g := fun m h1 h2 => ih (done ++ [x]) m (by rw [g1]; simp) h1 h2
      rw [show (done ++ [x]).length = done.length + 1 from by simp] at g
      clear ih g1
      refine wR (gI ?_)
      repeat' (first | ((first | refine C_r ?_ | refine O_r ?_); (conv => whnf); first | (refine ⟨fun hb => ?_, fun hb => ?_⟩ <;> try exact no_way) | refine A_o ?_ | refine B_o ?_) | refine X_l ?_ | fail)
      rw [w2]
      clear w2
      refine wLoop [0, 3, 4, 5] 0 (x.steps.length + 1) ?_
      refine (fun key => key x.steps [] _ rfl g2 (by omega) :
        (∀ (rest2 done2 : List Stp) (n2 : Int), x.steps = done2 ++ rest2 → fewO (match fewS rest2 n2 with | none => none | some m => fewL rest m) = fb → (0 ≤ n2 ∧ n2 < 2 ^ 61) →
        WR2 _ _ _ _ _ (rest2.length + 1) [(0, lst Span.row l), (3, int .i64 n2), (4, int .i64 done.length), (5, int .i64 done2.length)] []) → _) ?_
      clear g2 k1 k1' g3
      intro rest2
      induction rest2 with
      | nil =>
        intro done2 n2 m1 m2 m3
        have hlen2 : x.steps.length = done2.length := by rw [m1]; simp
        have m2 : fewO (fewL rest n2) = fb := m2
        have q2 : decide ((done2.length : Int) < ((x.steps.map Stp.row).length : Int)) = false := by rw [decide_eq_false_iff_not, hzs]; omega
        have g := g n2 m2 (by omega)
        clear cf
        refine wR (gI ?_)
        repeat' (first | ((first | refine C_r ?_ | refine O_r ?_); (conv => whnf); first | (refine ⟨fun hb => ?_, fun hb => ?_⟩ <;> try exact no_way) | refine A_o ?_ | refine B_o ?_ | refine R_o ?_) | refine X_l ?_ | fail)
        all_goals first | (rw [e7]; exact rE g) | trace_state
      | cons s rest2 ih2 =>
        intro done2 n2 m1 m2 m3
        have hx2 : x.steps[done2.length]? = some s := by rw [m1]; simp
        have hx2 : x.steps[((done2.length : Int)).toNat]? = some s := hx2
        have hlen2 : x.steps.length = done2.length + (rest2.length + 1) := by rw [m1]; simp
        have hsm := hss s (by rw [m1]; simp)
        have hsm1 := hsm.1
        have hzc : (s.clauses.map crow).length = s.clauses.length := by simp
        have q2 : decide ((done2.length : Int) < ((x.steps.map Stp.row).length : Int)) = true := by rw [decide_eq_true_eq, hzs]; omega
        have e8 : IntKind.i64.wrap ((done2.length : Int) + 1) = ((done2.length + 1 : Nat) : Int) := by rw [wrap_ok (by omega) (by omega)]; omega
        rw [fewS] at m2
        cases k2 : decide (n2 < 1000) with
        | false =>
          rw [k2, cond_false] at m2
          have m2 : fewO (fewL rest n2) = fb := m2
          have g := g n2 m2 (by omega)
          clear ih2 cf
          refine wR (gI ?_)
          repeat' (first | ((first | refine C_r ?_ | refine O_r ?_); (conv => whnf); first | (refine ⟨fun hb => ?_, fun hb => ?_⟩ <;> try exact no_way) | refine A_o ?_ | refine B_o ?_ | refine R_o ?_) | refine X_l ?_ | fail)
          all_goals first | (rw [e7]; exact rE g) | trace_state
        | true =>
          rw [k2, cond_true] at m2
          have k2' : n2 < 1000 := by simpa using k2
          have c1 := cf s.clauses hsm.1 hsm.2
          cases k3 : decide (fewC s.clauses 0 ≤ 120) with
          | false =>
            rw [k3] at m2 c1
            have m2 : false = fb := m2
            subst m2
            clear ih2 cf g
            refine wR (gI ?_)
            repeat' (first | ((first | refine C_r ?_ | refine O_r ?_); (conv => whnf); first | (refine ⟨fun hb => ?_, fun hb => ?_⟩ <;> try exact no_way) | refine B_o ?_ | refine fR ?_) | refine C_l (c1) ?_ | refine X_l ?_ | fail)
            all_goals first | exact ⟨rfl, rfl⟩ | trace_state
          | true =>
            rw [k3] at m2 c1
            simp only [cond_true] at m2
            have w3 : IntKind.i64.wrap (n2 + ((s.clauses.map crow).length : Int)) = n2 + s.clauses.length := by rw [hzc, wrap_ok (by omega) (by omega)]
            have g3 := ih2 (done2 ++ [s]) _ (by rw [m1]; simp) m2 (by omega)
            rw [show (done2 ++ [s]).length = done2.length + 1 from by simp, ← w3] at g3
            clear ih2 cf g m1 m2 w3
            refine wR (gI ?_)
            repeat' (first | ((first | refine C_r ?_ | refine O_r ?_); (conv => whnf); first | (refine ⟨fun hb => ?_, fun hb => ?_⟩ <;> try exact no_way) | refine B_o ?_ | refine R_o ?_) | refine C_l (c1) ?_ | refine X_l ?_ | fail)
            all_goals first | (rw [e8]; exact rE g3) | trace_state
end Go.Proofs.Ytcplpllbinilmaa
