/- The law TokenBlank: the document's reader at a text too long. -/
import Derived.Test.YtkjlmgfmedehiaaRk16
import Derived.Test.YtkjlmgfmedehiaaRk18
set_option linter.unusedVariables false
set_option linter.unusedSimpArgs false
namespace Go.Proofs.Ytkjlmgfmedehiaa
open Go Go.Am Go.Proofs
attribute [local irreducible] W WL DL WO RoundEnd
set_option maxRecDepth 10000
set_option maxHeartbeats 4000000
set_option linter.unusedVariables false
set_option linter.unusedSimpArgs false
theorem refSplitBig [GVals] (s : ByteArray) (file : Int) (hs : 20000 < s.size) : Comp Try.prog 15 [str s, int .i64 file] (.tup [.one (.d (.list [])), faultV 9 file (1, 1)]) := by
  have b1 : decide ((s.size : Int) > 20000) = true := decide_eq_true (by omega)
  unfold faultV
  rw [F_one]
  refine Spec.body (C := cx [] 71) fits (fn := Try.f15) Try.func15 rfl (by decide) (by decide) (gI ?_)
  repeat' (first | ((first | refine C_r ?_ | refine C0_r ?_ | refine O_r ?_ | refine R_r ?_); (conv => whnf); first | (refine ⟨fun hb => ?_, fun hb => ?_⟩ <;> try exact no_way) | refine A_o ?_ | refine B_o ?_ | refine C_o ?_ | refine R_o ?_ | refine fR ?_ | refine fRk ?_ | refine F_o ?_) | refine SA_l ?_ | refine V_l ?_ | refine L_l ?_ | refine Q_l ?_ | refine X_l ?_ | refine Xa_l ?_ | refine Xs_l ?_ | refine K_l ?_ | refine Ka_l ?_ | refine Lk_l ?_ | refine Up_l ?_ | refine Del_l ?_ | refine St_l ?_ | refine LU_l ?_ | refine Xw_l ?_ | refine Le_l ?_ | refine Se_l ?_ | refine M_l ?_ | refine A_l ?_ | refine A0_l ?_ | refine A1_l ?_ | refine Mk_l ?_ | refine Kz_l ?_ | refine W_l ?_ | fail)
  all_goals exact ⟨rfl, rfl⟩
def padRow (n : Int) : List D := [.sc (.int .i64 n)]
def ixOf (n : Int) : Int := (IntKind.i64.wrap ↑(BitVec.ofInt IntKind.i64.bits n &&& BitVec.ofInt IntKind.i64.bits 1023).toNat).tmod 6
theorem ix_bound (n : Int) : 0 ≤ ixOf n ∧ ixOf n < 6 := by
  unfold ixOf
  have h1 : (BitVec.ofInt IntKind.i64.bits n &&& BitVec.ofInt IntKind.i64.bits 1023).toNat < 2 ^ 10 := by
    rw [BitVec.toNat_and]
    exact Nat.lt_of_le_of_lt Nat.and_le_right (by decide)
  rw [wrap_ok (by omega) (by omega)]
  rw [Int.tmod_eq_emod_of_nonneg (by omega)]
  omega
def blanksB : List ByteArray := blanksL.map bal
def wOf (n : Int) : List UInt8 := (blanksL[(ixOf n).toNat]?).getD [32]
theorem w_row (n : Int) : (blanksB.map strow9)[(ixOf n).toNat]? = some (strow9 (bal (wOf n))) := by
  obtain ⟨h1, h2⟩ := ix_bound n
  unfold blanksB wOf
  rw [List.getElem?_map, List.getElem?_map]
  obtain ⟨w, hw⟩ : ∃ w, blanksL[(ixOf n).toNat]? = some w := ⟨_, List.getElem?_eq_getElem (by show _ < 6; omega)⟩
  rw [hw]; rfl
theorem w_mem (n : Int) : wOf n ∈ blanksL := by
  obtain ⟨h1, h2⟩ := ix_bound n
  unfold wOf
  obtain ⟨w, hw⟩ : ∃ w, blanksL[(ixOf n).toNat]? = some w := ⟨_, List.getElem?_eq_getElem (by show _ < 6; omega)⟩
  rw [hw]
  exact List.mem_of_getElem? hw
theorem blankLive [GVals] (s : ByteArray) (pad : List Int) (rows : List (List D)) (e : Int) (p : Nat × Nat) (c1 : Comp Try.prog 15 [str s, int .i64 0] (.tup [.one (.d (.list rows)), faultV e 0 p]))
    (h : (!(e == 0) || (decide ((s.size : Int) > 500) || decide (((pad.map padRow).length : Int) < IntKind.i64.wrap (((rows.length : Nat) : Int) + 1)))) = true) : Comp Try.prog 6 [str s, lst padRow pad] (Am.bool true) := by
  have c0 := alive9
  unfold faultV at c1
  cases h1 : (!(e == 0)) with
  | true =>
    refine Spec.body (C := cx [] 139) fits (fn := Try.f6) Try.func6 rfl (by decide) (by decide) (gI ?_)
    repeat' (first | ((first | refine C_r ?_ | refine C0_r ?_ | refine O_r ?_ | refine R_r ?_); (conv => whnf); first | (refine ⟨fun hb => ?_, fun hb => ?_⟩ <;> try exact no_way) | refine A_o ?_ | refine B_o ?_ | refine C_o ?_ | refine R_o ?_ | refine fR ?_ | refine fRk ?_ | refine F_o ?_) | refine C_l (c0) ?_ | refine C_l (c1) ?_ | refine SA_l ?_ | refine V_l ?_ | refine L_l ?_ | refine Q_l ?_ | refine X_l ?_ | refine Xa_l ?_ | refine Xs_l ?_ | refine K_l ?_ | refine Ka_l ?_ | refine Lk_l ?_ | refine Up_l ?_ | refine Del_l ?_ | refine St_l ?_ | refine LU_l ?_ | refine Xw_l ?_ | refine Le_l ?_ | refine Se_l ?_ | refine M_l ?_ | refine A_l ?_ | refine A0_l ?_ | refine A1_l ?_ | refine Mk_l ?_ | refine Kz_l ?_ | refine W_l ?_ | fail)
    all_goals exact ⟨rfl, rfl⟩
  | false =>
    rw [h1, Bool.false_or] at h
    cases h2 : decide ((s.size : Int) > 500) with
    | true =>
      refine Spec.body (C := cx [] 139) fits (fn := Try.f6) Try.func6 rfl (by decide) (by decide) (gI ?_)
      repeat' (first | ((first | refine C_r ?_ | refine C0_r ?_ | refine O_r ?_ | refine R_r ?_); (conv => whnf); first | (refine ⟨fun hb => ?_, fun hb => ?_⟩ <;> try exact no_way) | refine A_o ?_ | refine B_o ?_ | refine C_o ?_ | refine R_o ?_ | refine fR ?_ | refine fRk ?_ | refine F_o ?_) | refine C_l (c0) ?_ | refine C_l (c1) ?_ | refine SA_l ?_ | refine V_l ?_ | refine L_l ?_ | refine Q_l ?_ | refine X_l ?_ | refine Xa_l ?_ | refine Xs_l ?_ | refine K_l ?_ | refine Ka_l ?_ | refine Lk_l ?_ | refine Up_l ?_ | refine Del_l ?_ | refine St_l ?_ | refine LU_l ?_ | refine Xw_l ?_ | refine Le_l ?_ | refine Se_l ?_ | refine M_l ?_ | refine A_l ?_ | refine A0_l ?_ | refine A1_l ?_ | refine Mk_l ?_ | refine Kz_l ?_ | refine W_l ?_ | fail)
      all_goals exact ⟨rfl, rfl⟩
    | false =>
      rw [h2, Bool.false_or] at h
      refine Spec.body (C := cx [] 139) fits (fn := Try.f6) Try.func6 rfl (by decide) (by decide) (gI ?_)
      repeat' (first | ((first | refine C_r ?_ | refine C0_r ?_ | refine O_r ?_ | refine R_r ?_); (conv => whnf); first | (refine ⟨fun hb => ?_, fun hb => ?_⟩ <;> try exact no_way) | refine A_o ?_ | refine B_o ?_ | refine C_o ?_ | refine R_o ?_ | refine fR ?_ | refine fRk ?_ | refine F_o ?_) | refine C_l (c0) ?_ | refine C_l (c1) ?_ | refine SA_l ?_ | refine V_l ?_ | refine L_l ?_ | refine Q_l ?_ | refine X_l ?_ | refine Xa_l ?_ | refine Xs_l ?_ | refine K_l ?_ | refine Ka_l ?_ | refine Lk_l ?_ | refine Up_l ?_ | refine Del_l ?_ | refine St_l ?_ | refine LU_l ?_ | refine Xw_l ?_ | refine Le_l ?_ | refine Se_l ?_ | refine M_l ?_ | refine A_l ?_ | refine A0_l ?_ | refine A1_l ?_ | refine Mk_l ?_ | refine Kz_l ?_ | refine W_l ?_ | fail)
      all_goals exact ⟨rfl, rfl⟩
end Go.Proofs.Ytkjlmgfmedehiaa
