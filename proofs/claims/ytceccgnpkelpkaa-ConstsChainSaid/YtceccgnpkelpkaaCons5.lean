/- A part of a proof: functions of the program, walked over the abstract machine. -/
import Derived.Test.YtceccgnpkelpkaaCons4
set_option linter.unusedVariables false
set_option linter.unusedSimpArgs false
namespace Go.Proofs.Ytceccgnpkelpkaa
open Go Go.Am Go.Proofs
attribute [local irreducible] W WL DL WO RoundEnd
set_option maxRecDepth 10000
set_option maxHeartbeats 4000000
theorem alive14 : Comp Try.prog 21 [] (bool true) := by
  have c1 := tableNil
  have hz : (⟨#[]⟩ : ByteArray).size < 2 ^ 60 := by decide
  have c2 := valueR [⟨⟨#[65]⟩, .mk 7 ⟨#[]⟩ ⟨#[]⟩ 5 []⟩] (.mk 5 ⟨#[]⟩ ⟨#[65]⟩ 0 []) (by simp) (by simp; exact ⟨hz, trivial⟩) ⟨by decide, trivial⟩
  have e : cofF (learnF [] [⟨⟨#[65]⟩, .mk 7 ⟨#[]⟩ ⟨#[]⟩ 5 []⟩]) (.mk 5 ⟨#[]⟩ ⟨#[65]⟩ 0 []) = (5, 0) := by decide +kernel
  rw [e] at c2
  refine Spec.body (C := cx [] 40) fits (fn := Try.f21) Try.func21 rfl (by decide) (by decide) (gI ?_)
  repeat' (first | ((first | refine C_r ?_ | refine C0_r ?_ | refine O_r ?_ | refine R_r ?_); (conv => whnf); first | (refine ⟨fun hb => ?_, fun hb => ?_⟩ <;> try exact no_way) | refine A_o ?_ | refine B_o ?_ | refine C_o ?_ | refine R_o ?_ | refine fR ?_ | refine fRk ?_ | refine F_o ?_) | refine C_l (c1) ?_ | refine C_l (c2) ?_ | refine C_l (numR14 _) ?_ | refine SA_l ?_ | refine L_l ?_ | refine Q_l ?_ | refine X_l ?_ | refine Xa_l ?_ | refine Xs_l ?_ | refine K_l ?_ | refine Ka_l ?_ | refine Lk_l ?_ | refine Up_l ?_ | refine Del_l ?_ | refine St_l ?_ | refine LU_l ?_ | refine Xw_l ?_ | refine Le_l ?_ | refine Se_l ?_ | refine M_l ?_ | refine A_l ?_ | refine A0_l ?_ | refine A1_l ?_ | refine Mk_l ?_ | refine V_l ?_ | refine Kz_l ?_ | refine W_l ?_ | refine C_d (c1) ?_ | refine C_d (c2) ?_ | refine C_d (numR14 _) ?_ | refine SA_d ?_ | refine L_d ?_ | refine Q_d ?_ | refine X_d ?_ | refine Xs_d ?_ | refine K_d ?_ | refine Ka_d ?_ | refine Lk_d ?_ | refine Up_d ?_ | refine A_d ?_ | refine A0_d ?_ | refine St_d ?_ | refine LU_d ?_ | refine Xw_d ?_ | refine Le_d ?_ | refine Se_d ?_ | refine M_d ?_ | refine N_d ?_ | refine V_d ?_ | refine Kz_d ?_ | refine W_d ?_ | fail)
  all_goals exact ⟨rfl, rfl⟩
end Go.Proofs.Ytceccgnpkelpkaa
