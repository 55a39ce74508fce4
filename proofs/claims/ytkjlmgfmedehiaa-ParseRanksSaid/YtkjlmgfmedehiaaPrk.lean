/- The law ParseRanks: each of its eight triples of texts run by the evaluator; any other number walked. -/
import Derived.Test.YtkjlmgfmedehiaaRdT
import Derived.Test.YtkjlmgfmedehiaaBase
import Derived.Test.YtkjlmgfmedehiaaAmTab
set_option linter.unusedVariables false
set_option linter.unusedSimpArgs false
namespace Go.Proofs.Ytkjlmgfmedehiaa
open Go Go.Am Go.Proofs
attribute [local irreducible] W WL DL WO RoundEnd
set_option maxRecDepth 100000
set_option maxHeartbeats 4000000
theorem alive12 : Comp Try.prog 9 [] (Am.bool true) := ev_true hkB_ok (d := 200) (by decide +kernel)
def gAl12 : List V → Option V
  | [] => some (Am.bool true)
  | _ => none
theorem gAl12_ok : ∀ vs r, gAl12 vs = some r → Comp Try.prog 9 vs r := by
  intro vs r h
  unfold gAl12 at h
  split at h
  · injection h with h; subst h; exact alive12
  · simp at h
def hkC : Hook := hkOr (hk1 9 gAl12) hkB
theorem hkC_ok : HookOk Try.prog hkC := hkOr_ok (hk1_ok gAl12_ok) hkB_ok
theorem pr0 : Comp Try.prog 3 [.one (.d (.sc (.int .i64 0)))] (Am.bool true) := ev_true hkC_ok (d := 200) (by decide +kernel)
theorem pr1 : Comp Try.prog 3 [.one (.d (.sc (.int .i64 1)))] (Am.bool true) := ev_true hkC_ok (d := 200) (by decide +kernel)
theorem pr2 : Comp Try.prog 3 [.one (.d (.sc (.int .i64 2)))] (Am.bool true) := ev_true hkC_ok (d := 200) (by decide +kernel)
theorem pr3 : Comp Try.prog 3 [.one (.d (.sc (.int .i64 3)))] (Am.bool true) := ev_true hkC_ok (d := 200) (by decide +kernel)
theorem pr4 : Comp Try.prog 3 [.one (.d (.sc (.int .i64 4)))] (Am.bool true) := ev_true hkC_ok (d := 200) (by decide +kernel)
theorem pr5 : Comp Try.prog 3 [.one (.d (.sc (.int .i64 5)))] (Am.bool true) := ev_true hkC_ok (d := 200) (by decide +kernel)
theorem pr6 : Comp Try.prog 3 [.one (.d (.sc (.int .i64 6)))] (Am.bool true) := ev_true hkC_ok (d := 200) (by decide +kernel)
theorem pr7 : Comp Try.prog 3 [.one (.d (.sc (.int .i64 7)))] (Am.bool true) := ev_true hkC_ok (d := 200) (by decide +kernel)
theorem prOut (n : Int) (h : n < 0 ∨ 8 ≤ n) : Comp Try.prog 3 [int .i64 n] (Am.bool true) := by
  have c1 := alive12
  have hc : (decide (n < 0) || decide (n ≥ 8)) = true := by
    rw [Bool.or_eq_true, decide_eq_true_eq, decide_eq_true_eq]; exact h
  cases h1 : decide (n < 0) with
  | true =>
    refine Spec.body (C := cx [] 84) fits (fn := Try.f3) Try.func3 rfl (by decide) (by decide) (gI ?_)
    repeat' (first | ((first | refine C_r ?_ | refine C0_r ?_ | refine O_r ?_ | refine R_r ?_); (conv => whnf); first | (refine ⟨fun hb => ?_, fun hb => ?_⟩ <;> try exact no_way) | refine A_o ?_ | refine B_o ?_ | refine C_o ?_ | refine R_o ?_ | refine fR ?_ | refine fRk ?_ | refine F_o ?_) | refine C_l (c1) ?_ | refine SA_l ?_ | refine V_l ?_ | refine L_l ?_ | refine Q_l ?_ | refine X_l ?_ | refine Xa_l ?_ | refine Xs_l ?_ | refine K_l ?_ | refine Ka_l ?_ | refine Lk_l ?_ | refine Up_l ?_ | refine Del_l ?_ | refine St_l ?_ | refine LU_l ?_ | refine Xw_l ?_ | refine Le_l ?_ | refine Se_l ?_ | refine M_l ?_ | refine A_l ?_ | refine A0_l ?_ | refine A1_l ?_ | refine Mk_l ?_ | refine Kz_l ?_ | refine W_l ?_ | fail)
    all_goals exact ⟨rfl, rfl⟩
  | false =>
    have h2 : decide (n ≥ 8) = true := by rw [h1, Bool.false_or] at hc; exact hc
    refine Spec.body (C := cx [] 84) fits (fn := Try.f3) Try.func3 rfl (by decide) (by decide) (gI ?_)
    repeat' (first | ((first | refine C_r ?_ | refine C0_r ?_ | refine O_r ?_ | refine R_r ?_); (conv => whnf); first | (refine ⟨fun hb => ?_, fun hb => ?_⟩ <;> try exact no_way) | refine A_o ?_ | refine B_o ?_ | refine C_o ?_ | refine R_o ?_ | refine fR ?_ | refine fRk ?_ | refine F_o ?_) | refine C_l (c1) ?_ | refine SA_l ?_ | refine V_l ?_ | refine L_l ?_ | refine Q_l ?_ | refine X_l ?_ | refine Xa_l ?_ | refine Xs_l ?_ | refine K_l ?_ | refine Ka_l ?_ | refine Lk_l ?_ | refine Up_l ?_ | refine Del_l ?_ | refine St_l ?_ | refine LU_l ?_ | refine Xw_l ?_ | refine Le_l ?_ | refine Se_l ?_ | refine M_l ?_ | refine A_l ?_ | refine A0_l ?_ | refine A1_l ?_ | refine Mk_l ?_ | refine Kz_l ?_ | refine W_l ?_ | fail)
    all_goals exact ⟨rfl, rfl⟩
theorem parseRanks (n : Int) : Comp Try.prog 3 [int .i64 n] (Am.bool true) := by
  by_cases h : n < 0 ∨ 8 ≤ n
  · exact prOut n h
  · have : n = 0 ∨ n = 1 ∨ n = 2 ∨ n = 3 ∨ n = 4 ∨ n = 5 ∨ n = 6 ∨ n = 7 := by omega
    rcases this with rfl | rfl | rfl | rfl | rfl | rfl | rfl | rfl
    · exact pr0
    · exact pr1
    · exact pr2
    · exact pr3
    · exact pr4
    · exact pr5
    · exact pr6
    · exact pr7
theorem parseRanks_typed {x0 : List D} (y0 : Typed Try.prog 3 x0) : Comp Try.prog 3 [argV (aggTy Try.prog 3) x0] (Am.bool true) := by
  have a0 : aggTy Try.prog 3 = false := by unfold aggTy; rw [Try.underlying3]
  obtain ⟨n, rfl, _⟩ := y0.int_inv Try.underlying3
  rw [a0]
  exact parseRanks n
end Go.Proofs.Ytkjlmgfmedehiaa
