/- The law CallsAll: each of the three architectures run by the evaluator; any other number walked. -/
import Derived.Test.YtgcacmjgimhemaaDoorClA
set_option linter.unusedVariables false
set_option linter.unusedSimpArgs false
namespace Go.Proofs.YtgcacmjgimhemaaDoor
open Go Go.Am Go.Proofs
attribute [local irreducible] W WL DL WO RoundEnd
set_option maxRecDepth 100000
set_option maxHeartbeats 4000000
set_option linter.unusedVariables false
set_option linter.unusedSimpArgs false
theorem alive7 [GVals] : Comp Tryd.prog 9 [] (Am.bool true) := ev_true hkAl_ok (d := 200) (by kernel_rfl)
theorem ca0 [GVals] : Comp Tryd.prog 3 [.one (.d (.sc (.int .i64 0)))] (Am.bool true) := ev_true hkAl_ok (d := 200) (by kernel_rfl)
theorem ca1 [GVals] : Comp Tryd.prog 3 [.one (.d (.sc (.int .i64 1)))] (Am.bool true) := ev_true hkAl_ok (d := 200) (by kernel_rfl)
theorem ca2 [GVals] : Comp Tryd.prog 3 [.one (.d (.sc (.int .i64 2)))] (Am.bool true) := ev_true hkAl_ok (d := 200) (by kernel_rfl)
theorem archesR [GVals] : Comp Tryd.prog 10 [] (.one (.d (.list [[.sc (.string ⟨#[97, 97, 114, 99, 104, 54, 52]⟩)], [.sc (.string ⟨#[105, 51, 56, 54]⟩)], [.sc (.string ⟨#[120, 56, 54, 95, 54, 52]⟩)]]))) := ev_val noHook_ok (d := 200) (by kernel_rfl)
theorem caOut [GVals] (n : Int) (h : n < 0 ∨ 3 ≤ n) : Comp Tryd.prog 3 [int .i64 n] (Am.bool true) := by
  have c1 := alive7
  have c2 := archesR
  have hc : (decide (n < 0) || decide (n ≥ 3)) = true := by
    rw [Bool.or_eq_true, decide_eq_true_eq, decide_eq_true_eq]; exact h
  cases h1 : decide (n < 0) with
  | true =>
    refine Spec.body (C := cx [] 124) fits (fn := Tryd.f3) Tryd.func3 rfl (by decide) (by decide) (gI ?_)
    repeat' (first | ((first | refine C_r ?_ | refine C0_r ?_ | refine O_r ?_ | refine R_r ?_); (conv => whnf); first | (refine ⟨fun hb => ?_, fun hb => ?_⟩ <;> try exact no_way) | refine A_o ?_ | refine B_o ?_ | refine C_o ?_ | refine R_o ?_ | refine fR ?_ | refine fRk ?_ | refine F_o ?_) | refine C_l (c1) ?_ | refine C_l (c2) ?_ | refine SA_l ?_ | refine V_l ?_ | refine L_l ?_ | refine Q_l ?_ | refine X_l ?_ | refine Xa_l ?_ | refine Xs_l ?_ | refine K_l ?_ | refine Ka_l ?_ | refine Lk_l ?_ | refine Up_l ?_ | refine Del_l ?_ | refine St_l ?_ | refine LU_l ?_ | refine Xw_l ?_ | refine Le_l ?_ | refine Se_l ?_ | refine M_l ?_ | refine A_l ?_ | refine A0_l ?_ | refine A1_l ?_ | refine Mk_l ?_ | refine Kz_l ?_ | refine W_l ?_ | fail)
    all_goals exact ⟨rfl, rfl⟩
  | false =>
    have h2 : decide (n ≥ 3) = true := by rw [h1, Bool.false_or] at hc; exact hc
    refine Spec.body (C := cx [] 124) fits (fn := Tryd.f3) Tryd.func3 rfl (by decide) (by decide) (gI ?_)
    repeat' (first | ((first | refine C_r ?_ | refine C0_r ?_ | refine O_r ?_ | refine R_r ?_); (conv => whnf); first | (refine ⟨fun hb => ?_, fun hb => ?_⟩ <;> try exact no_way) | refine A_o ?_ | refine B_o ?_ | refine C_o ?_ | refine R_o ?_ | refine fR ?_ | refine fRk ?_ | refine F_o ?_) | refine C_l (c1) ?_ | refine C_l (c2) ?_ | refine SA_l ?_ | refine V_l ?_ | refine L_l ?_ | refine Q_l ?_ | refine X_l ?_ | refine Xa_l ?_ | refine Xs_l ?_ | refine K_l ?_ | refine Ka_l ?_ | refine Lk_l ?_ | refine Up_l ?_ | refine Del_l ?_ | refine St_l ?_ | refine LU_l ?_ | refine Xw_l ?_ | refine Le_l ?_ | refine Se_l ?_ | refine M_l ?_ | refine A_l ?_ | refine A0_l ?_ | refine A1_l ?_ | refine Mk_l ?_ | refine Kz_l ?_ | refine W_l ?_ | fail)
    all_goals exact ⟨rfl, rfl⟩
theorem callsAll [GVals] (n : Int) : Comp Tryd.prog 3 [int .i64 n] (Am.bool true) := by
  by_cases h : n < 0 ∨ 3 ≤ n
  · exact caOut n h
  · have : n = 0 ∨ n = 1 ∨ n = 2 := by omega
    rcases this with rfl | rfl | rfl
    · exact ca0
    · exact ca1
    · exact ca2
theorem callsAll_typed [GVals] {x0 : List D} (y0 : Typed Tryd.prog 3 x0) : Comp Tryd.prog 3 [argV (aggTy Tryd.prog 3) x0] (Am.bool true) := by
  have a0 : aggTy Tryd.prog 3 = false := by unfold aggTy; rw [Tryd.underlying3]
  obtain ⟨n, rfl, _⟩ := y0.int_inv Tryd.underlying3
  rw [a0]
  exact callsAll n
end Go.Proofs.YtgcacmjgimhemaaDoor
