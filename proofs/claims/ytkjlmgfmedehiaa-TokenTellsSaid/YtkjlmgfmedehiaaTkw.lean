/- The law TokenWrong: each of its 24 texts run by the evaluator; any other number walked. -/
import Derived.Test.YtkjlmgfmedehiaaHkT
set_option linter.unusedVariables false
set_option linter.unusedSimpArgs false
namespace Go.Proofs.Ytkjlmgfmedehiaa
open Go Go.Am Go.Proofs
attribute [local irreducible] W WL DL WO RoundEnd
set_option maxRecDepth 100000
set_option maxHeartbeats 4000000
set_option linter.unusedVariables false
set_option linter.unusedSimpArgs false
theorem alive9 [GVals] : Comp Try.prog 13 [] (Am.bool true) := ev_true hkT_ok (d := 200) (by kernel_rfl)
theorem tw0 [GVals] : Comp Try.prog 7 [.one (.d (.sc (.int .i64 0)))] (Am.bool true) := ev_true hkT_ok (d := 200) (by kernel_rfl)
theorem tw1 [GVals] : Comp Try.prog 7 [.one (.d (.sc (.int .i64 1)))] (Am.bool true) := ev_true hkT_ok (d := 200) (by kernel_rfl)
theorem tw2 [GVals] : Comp Try.prog 7 [.one (.d (.sc (.int .i64 2)))] (Am.bool true) := ev_true hkT_ok (d := 200) (by kernel_rfl)
theorem tw3 [GVals] : Comp Try.prog 7 [.one (.d (.sc (.int .i64 3)))] (Am.bool true) := ev_true hkT_ok (d := 200) (by kernel_rfl)
theorem tw4 [GVals] : Comp Try.prog 7 [.one (.d (.sc (.int .i64 4)))] (Am.bool true) := ev_true hkT_ok (d := 200) (by kernel_rfl)
theorem tw5 [GVals] : Comp Try.prog 7 [.one (.d (.sc (.int .i64 5)))] (Am.bool true) := ev_true hkT_ok (d := 200) (by kernel_rfl)
theorem tw6 [GVals] : Comp Try.prog 7 [.one (.d (.sc (.int .i64 6)))] (Am.bool true) := ev_true hkT_ok (d := 200) (by kernel_rfl)
theorem tw7 [GVals] : Comp Try.prog 7 [.one (.d (.sc (.int .i64 7)))] (Am.bool true) := ev_true hkT_ok (d := 200) (by kernel_rfl)
theorem tw8 [GVals] : Comp Try.prog 7 [.one (.d (.sc (.int .i64 8)))] (Am.bool true) := ev_true hkT_ok (d := 200) (by kernel_rfl)
theorem tw9 [GVals] : Comp Try.prog 7 [.one (.d (.sc (.int .i64 9)))] (Am.bool true) := ev_true hkT_ok (d := 200) (by kernel_rfl)
theorem tw10 [GVals] : Comp Try.prog 7 [.one (.d (.sc (.int .i64 10)))] (Am.bool true) := ev_true hkT_ok (d := 200) (by kernel_rfl)
theorem tw11 [GVals] : Comp Try.prog 7 [.one (.d (.sc (.int .i64 11)))] (Am.bool true) := ev_true hkT_ok (d := 200) (by kernel_rfl)
theorem tw12 [GVals] : Comp Try.prog 7 [.one (.d (.sc (.int .i64 12)))] (Am.bool true) := ev_true hkT_ok (d := 200) (by kernel_rfl)
theorem tw13 [GVals] : Comp Try.prog 7 [.one (.d (.sc (.int .i64 13)))] (Am.bool true) := ev_true hkT_ok (d := 200) (by kernel_rfl)
theorem tw14 [GVals] : Comp Try.prog 7 [.one (.d (.sc (.int .i64 14)))] (Am.bool true) := ev_true hkT_ok (d := 200) (by kernel_rfl)
theorem tw15 [GVals] : Comp Try.prog 7 [.one (.d (.sc (.int .i64 15)))] (Am.bool true) := ev_true hkT_ok (d := 200) (by kernel_rfl)
theorem tw16 [GVals] : Comp Try.prog 7 [.one (.d (.sc (.int .i64 16)))] (Am.bool true) := ev_true hkT_ok (d := 200) (by kernel_rfl)
theorem tw17 [GVals] : Comp Try.prog 7 [.one (.d (.sc (.int .i64 17)))] (Am.bool true) := ev_true hkT_ok (d := 200) (by kernel_rfl)
theorem tw18 [GVals] : Comp Try.prog 7 [.one (.d (.sc (.int .i64 18)))] (Am.bool true) := ev_true hkT_ok (d := 200) (by kernel_rfl)
theorem tw19 [GVals] : Comp Try.prog 7 [.one (.d (.sc (.int .i64 19)))] (Am.bool true) := ev_true hkT_ok (d := 200) (by kernel_rfl)
theorem tw20 [GVals] : Comp Try.prog 7 [.one (.d (.sc (.int .i64 20)))] (Am.bool true) := ev_true hkT_ok (d := 200) (by kernel_rfl)
theorem tw21 [GVals] : Comp Try.prog 7 [.one (.d (.sc (.int .i64 21)))] (Am.bool true) := ev_true hkT_ok (d := 200) (by kernel_rfl)
theorem tw22 [GVals] : Comp Try.prog 7 [.one (.d (.sc (.int .i64 22)))] (Am.bool true) := ev_true hkT_ok (d := 200) (by kernel_rfl)
theorem tw23 [GVals] : Comp Try.prog 7 [.one (.d (.sc (.int .i64 23)))] (Am.bool true) := ev_true hkT_ok (d := 200) (by kernel_rfl)
theorem twOut [GVals] (n : Int) (h : n < 0 ∨ 24 ≤ n) : Comp Try.prog 7 [int .i64 n] (Am.bool true) := by
  have c1 := alive9
  have hc : (decide (n < 0) || decide (n ≥ 24)) = true := by
    rw [Bool.or_eq_true, decide_eq_true_eq, decide_eq_true_eq]; exact h
  cases h1 : decide (n < 0) with
  | true =>
    refine Spec.body (C := cx [] 54) fits (fn := Try.f7) Try.func7 rfl (by decide) (by decide) (gI ?_)
    repeat' (first | ((first | refine C_r ?_ | refine C0_r ?_ | refine O_r ?_ | refine R_r ?_); (conv => whnf); first | (refine ⟨fun hb => ?_, fun hb => ?_⟩ <;> try exact no_way) | refine A_o ?_ | refine B_o ?_ | refine C_o ?_ | refine R_o ?_ | refine fR ?_ | refine fRk ?_ | refine F_o ?_) | refine C_l (c1) ?_ | refine SA_l ?_ | refine V_l ?_ | refine L_l ?_ | refine Q_l ?_ | refine X_l ?_ | refine Xa_l ?_ | refine Xs_l ?_ | refine K_l ?_ | refine Ka_l ?_ | refine Lk_l ?_ | refine Up_l ?_ | refine Del_l ?_ | refine St_l ?_ | refine LU_l ?_ | refine Xw_l ?_ | refine Le_l ?_ | refine Se_l ?_ | refine M_l ?_ | refine A_l ?_ | refine A0_l ?_ | refine A1_l ?_ | refine Mk_l ?_ | refine Kz_l ?_ | refine W_l ?_ | fail)
    all_goals exact ⟨rfl, rfl⟩
  | false =>
    have h2 : decide (n ≥ 24) = true := by rw [h1, Bool.false_or] at hc; exact hc
    refine Spec.body (C := cx [] 54) fits (fn := Try.f7) Try.func7 rfl (by decide) (by decide) (gI ?_)
    repeat' (first | ((first | refine C_r ?_ | refine C0_r ?_ | refine O_r ?_ | refine R_r ?_); (conv => whnf); first | (refine ⟨fun hb => ?_, fun hb => ?_⟩ <;> try exact no_way) | refine A_o ?_ | refine B_o ?_ | refine C_o ?_ | refine R_o ?_ | refine fR ?_ | refine fRk ?_ | refine F_o ?_) | refine C_l (c1) ?_ | refine SA_l ?_ | refine V_l ?_ | refine L_l ?_ | refine Q_l ?_ | refine X_l ?_ | refine Xa_l ?_ | refine Xs_l ?_ | refine K_l ?_ | refine Ka_l ?_ | refine Lk_l ?_ | refine Up_l ?_ | refine Del_l ?_ | refine St_l ?_ | refine LU_l ?_ | refine Xw_l ?_ | refine Le_l ?_ | refine Se_l ?_ | refine M_l ?_ | refine A_l ?_ | refine A0_l ?_ | refine A1_l ?_ | refine Mk_l ?_ | refine Kz_l ?_ | refine W_l ?_ | fail)
    all_goals exact ⟨rfl, rfl⟩
theorem tokenWrong [GVals] (n : Int) : Comp Try.prog 7 [int .i64 n] (Am.bool true) := by
  by_cases h : n < 0 ∨ 24 ≤ n
  · exact twOut n h
  · have : n = 0 ∨ n = 1 ∨ n = 2 ∨ n = 3 ∨ n = 4 ∨ n = 5 ∨ n = 6 ∨ n = 7 ∨ n = 8 ∨ n = 9 ∨ n = 10 ∨ n = 11 ∨ n = 12 ∨ n = 13 ∨ n = 14 ∨ n = 15 ∨ n = 16 ∨ n = 17 ∨ n = 18 ∨ n = 19 ∨ n = 20 ∨ n = 21 ∨ n = 22 ∨ n = 23 := by omega
    rcases this with rfl | rfl | rfl | rfl | rfl | rfl | rfl | rfl | rfl | rfl | rfl | rfl | rfl | rfl | rfl | rfl | rfl | rfl | rfl | rfl | rfl | rfl | rfl | rfl
    · exact tw0
    · exact tw1
    · exact tw2
    · exact tw3
    · exact tw4
    · exact tw5
    · exact tw6
    · exact tw7
    · exact tw8
    · exact tw9
    · exact tw10
    · exact tw11
    · exact tw12
    · exact tw13
    · exact tw14
    · exact tw15
    · exact tw16
    · exact tw17
    · exact tw18
    · exact tw19
    · exact tw20
    · exact tw21
    · exact tw22
    · exact tw23
theorem tokenWrong_typed [GVals] {x0 : List D} (y0 : Typed Try.prog 3 x0) : Comp Try.prog 7 [argV (aggTy Try.prog 3) x0] (Am.bool true) := by
  have a0 : aggTy Try.prog 3 = false := by unfold aggTy; rw [Try.underlying3]
  obtain ⟨n, rfl, _⟩ := y0.int_inv Try.underlying3
  rw [a0]
  exact tokenWrong n
end Go.Proofs.Ytkjlmgfmedehiaa
