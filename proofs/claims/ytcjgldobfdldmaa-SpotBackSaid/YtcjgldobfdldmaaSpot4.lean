/- A part of a proof: functions of the program, walked over the abstract machine. -/
import Derived.Test.YtcjgldobfdldmaaSpot3
set_option linter.unusedVariables false
set_option linter.unusedSimpArgs false
namespace Go.Proofs.Ytcjgldobfdldmaa
open Go Go.Am Go.Proofs
attribute [local irreducible] W WL DL WO RoundEnd
set_option maxRecDepth 10000
set_option maxHeartbeats 4000000
theorem F_two : F 2 = 4611686018427387904 := by
  rw [F_eq (by decide)]; decide +kernel
theorem F_three : F 3 = 4613937818241073152 := by
  rw [F_eq (by decide)]; decide +kernel
theorem alive6 : Comp Try.prog 7 [] (bool true) := by
  have c1 := atR ⟨#[97]⟩ 0 (by decide)
  have e1 : atF ⟨#[97]⟩ 0 = (1, 1) := by decide
  rw [e1] at c1
  have c2 := behindR (1, 1) ⟨#[97, 10, 98, 99]⟩ (by decide) (by decide)
  have e2 : walkF (1, 1) (⟨#[97, 10, 98, 99]⟩ : ByteArray).data.toList = (2, 3) := by decide
  rw [e2] at c2
  have e3 : ∀ p, spotV p = .one (.d (.sc (.complex .f64 (F p.1) (F p.2)))) := fun _ => rfl
  simp only [e3, F_one, F_two, F_three] at c1 c2
  have b1 : ∀ x, x < 2 ^ 53 → fEq (F x) (F x) = true := fun x h => by rw [fEq_F h h]; simp
  have b2 := b1 1 (by decide)
  have b3 := b1 2 (by decide)
  have b4 := b1 3 (by decide)
  rw [F_one] at b2
  rw [F_two] at b3
  rw [F_three] at b4
  have b5 : (fEq 4607182418800017408 4607182418800017408 && fEq 4607182418800017408 4607182418800017408) = true := by rw [b2]; rfl
  have b6 : (fEq 4611686018427387904 4611686018427387904 && fEq 4613937818241073152 4613937818241073152) = true := by rw [b3, b4]; rfl
  refine Spec.body (C := cx [] 7) fits (fn := Try.f7) Try.func7 rfl (by decide) (by decide) (gI ?_)
  repeat' (first | ((first | refine C_r ?_ | refine C0_r ?_ | refine O_r ?_ | refine R_r ?_); (conv => whnf); first | (refine ⟨fun hb => ?_, fun hb => ?_⟩ <;> try exact no_way) | refine A_o ?_ | refine B_o ?_ | refine C_o ?_ | refine R_o ?_ | refine fR ?_ | refine fRk ?_ | refine F_o ?_) | refine C_l (c1) ?_ | refine C_l (c2) ?_ | refine SA_l ?_ | refine V_l ?_ | refine L_l ?_ | refine Q_l ?_ | refine X_l ?_ | refine Xa_l ?_ | refine Xs_l ?_ | refine K_l ?_ | refine Ka_l ?_ | refine Lk_l ?_ | refine Up_l ?_ | refine Del_l ?_ | refine St_l ?_ | refine LU_l ?_ | refine Xw_l ?_ | refine Le_l ?_ | refine Se_l ?_ | refine M_l ?_ | refine A_l ?_ | refine A0_l ?_ | refine A1_l ?_ | refine Mk_l ?_ | refine Kz_l ?_ | refine W_l ?_ | refine C_d (c1) ?_ | refine C_d (c2) ?_ | refine SA_d ?_ | refine V_d ?_ | refine L_d ?_ | refine Q_d ?_ | refine X_d ?_ | refine Xs_d ?_ | refine K_d ?_ | refine Ka_d ?_ | refine Lk_d ?_ | refine Up_d ?_ | refine A_d ?_ | refine A0_d ?_ | refine St_d ?_ | refine LU_d ?_ | refine Xw_d ?_ | refine Le_d ?_ | refine Se_d ?_ | refine M_d ?_ | refine N_d ?_ | refine Kz_d ?_ | refine W_d ?_ | fail)
  all_goals exact ⟨rfl, rfl⟩
theorem fEq_self (x : Nat) (h : x < 2 ^ 53) : fEq (F x) (F x) = true := by rw [fEq_F h h]; simp
theorem at_small (s : ByteArray) (i : Int) : (atF s i).1 ≤ s.size + 1 ∧ (atF s i).2 ≤ s.size + 2 := by
  have h := walk_len (1, 1) (s.data.toList.take (capF i s.size))
  have hl : (s.data.toList.take (capF i s.size)).length ≤ s.size := by
    rw [List.length_take]
    exact Nat.min_le_right _ _
  unfold atF
  simp only at h
  omega
theorem tells6 (s : ByteArray) (i : Int) (y x : Nat) (hs : s.size < 2 ^ 60) : Comp Try.prog 4 [str s, int .i64 i, .one (.d (.sc (.float .f64 y))), .one (.d (.sc (.float .f64 x)))] (bool true) := by
  have c0 := alive6
  by_cases hb : 500 < s.size
  · have b1 : decide ((s.size : Int) > 500) = true := decide_eq_true (by omega)
    refine Spec.body (C := cx [] 64) fits (fn := Try.f4) Try.func4 rfl (by decide) (by decide) (gI ?_)
    repeat' (first | ((first | refine C_r ?_ | refine C0_r ?_ | refine O_r ?_ | refine R_r ?_); (conv => whnf); first | (refine ⟨fun hb => ?_, fun hb => ?_⟩ <;> try exact no_way) | refine A_o ?_ | refine B_o ?_ | refine C_o ?_ | refine R_o ?_ | refine fR ?_ | refine fRk ?_ | refine F_o ?_) | refine C_l (c0) ?_ | refine SA_l ?_ | refine V_l ?_ | refine L_l ?_ | refine Q_l ?_ | refine X_l ?_ | refine Xa_l ?_ | refine Xs_l ?_ | refine K_l ?_ | refine Ka_l ?_ | refine Lk_l ?_ | refine Up_l ?_ | refine Del_l ?_ | refine St_l ?_ | refine LU_l ?_ | refine Xw_l ?_ | refine Le_l ?_ | refine Se_l ?_ | refine M_l ?_ | refine A_l ?_ | refine A0_l ?_ | refine A1_l ?_ | refine Mk_l ?_ | refine Kz_l ?_ | refine W_l ?_ | refine C_d (c0) ?_ | refine SA_d ?_ | refine V_d ?_ | refine L_d ?_ | refine Q_d ?_ | refine X_d ?_ | refine Xs_d ?_ | refine K_d ?_ | refine Ka_d ?_ | refine Lk_d ?_ | refine Up_d ?_ | refine A_d ?_ | refine A0_d ?_ | refine St_d ?_ | refine LU_d ?_ | refine Xw_d ?_ | refine Le_d ?_ | refine Se_d ?_ | refine M_d ?_ | refine N_d ?_ | refine Kz_d ?_ | refine W_d ?_ | fail)
    exact ⟨rfl, rfl⟩
  have b1 : decide ((s.size : Int) > 500) = false := decide_eq_false (by omega)
  have c1 := atRefR s i (by omega)
  have c2 := placeR s y x (by omega)
  have c3 := placeRefR s y x (by omega)
  have c4 := atR s i (by omega)
  have hsm := at_small s i
  generalize atF s i = p at *
  have c5 := spotR p.1 p.2
  obtain ⟨p1, p2⟩ := p
  simp only at *
  have b2 : (fEq (F p1) (F p1) && fEq (F p2) (F p2)) = true := by rw [fEq_self _ (by omega), fEq_self _ (by omega)]; rfl
  generalize placeF y x (1, 1) s.data.toList 0 = r at *
  have b3 : (((r.getD 0 : Nat) : Int) == ((r.getD 0 : Nat) : Int)) = true := by simp
  have b4 : (r.isSome == r.isSome) = true := by simp
  cases hr : r with
  | none =>
    subst hr
    refine Spec.body (C := cx [] 64) fits (fn := Try.f4) Try.func4 rfl (by decide) (by decide) (gI ?_)
    repeat' (first | ((first | refine C_r ?_ | refine C0_r ?_ | refine O_r ?_ | refine R_r ?_); (conv => whnf); first | (refine ⟨fun hb => ?_, fun hb => ?_⟩ <;> try exact no_way) | refine A_o ?_ | refine B_o ?_ | refine C_o ?_ | refine R_o ?_ | refine fR ?_ | refine fRk ?_ | refine F_o ?_) | refine C_l (c0) ?_ | refine C_l (c1) ?_ | refine C_l (c2) ?_ | refine C_l (c3) ?_ | refine C_l (c4) ?_ | refine C_l (c5) ?_ | refine SA_l ?_ | refine V_l ?_ | refine L_l ?_ | refine Q_l ?_ | refine X_l ?_ | refine Xa_l ?_ | refine Xs_l ?_ | refine K_l ?_ | refine Ka_l ?_ | refine Lk_l ?_ | refine Up_l ?_ | refine Del_l ?_ | refine St_l ?_ | refine LU_l ?_ | refine Xw_l ?_ | refine Le_l ?_ | refine Se_l ?_ | refine M_l ?_ | refine A_l ?_ | refine A0_l ?_ | refine A1_l ?_ | refine Mk_l ?_ | refine Kz_l ?_ | refine W_l ?_ | refine C_d (c0) ?_ | refine C_d (c1) ?_ | refine C_d (c2) ?_ | refine C_d (c3) ?_ | refine C_d (c4) ?_ | refine C_d (c5) ?_ | refine SA_d ?_ | refine V_d ?_ | refine L_d ?_ | refine Q_d ?_ | refine X_d ?_ | refine Xs_d ?_ | refine K_d ?_ | refine Ka_d ?_ | refine Lk_d ?_ | refine Up_d ?_ | refine A_d ?_ | refine A0_d ?_ | refine St_d ?_ | refine LU_d ?_ | refine Xw_d ?_ | refine Le_d ?_ | refine Se_d ?_ | refine M_d ?_ | refine N_d ?_ | refine Kz_d ?_ | refine W_d ?_ | fail)
    all_goals exact ⟨rfl, rfl⟩
  | some n =>
    subst hr
    refine Spec.body (C := cx [] 64) fits (fn := Try.f4) Try.func4 rfl (by decide) (by decide) (gI ?_)
    repeat' (first | ((first | refine C_r ?_ | refine C0_r ?_ | refine O_r ?_ | refine R_r ?_); (conv => whnf); first | (refine ⟨fun hb => ?_, fun hb => ?_⟩ <;> try exact no_way) | refine A_o ?_ | refine B_o ?_ | refine C_o ?_ | refine R_o ?_ | refine fR ?_ | refine fRk ?_ | refine F_o ?_) | refine C_l (c0) ?_ | refine C_l (c1) ?_ | refine C_l (c2) ?_ | refine C_l (c3) ?_ | refine C_l (c4) ?_ | refine C_l (c5) ?_ | refine SA_l ?_ | refine V_l ?_ | refine L_l ?_ | refine Q_l ?_ | refine X_l ?_ | refine Xa_l ?_ | refine Xs_l ?_ | refine K_l ?_ | refine Ka_l ?_ | refine Lk_l ?_ | refine Up_l ?_ | refine Del_l ?_ | refine St_l ?_ | refine LU_l ?_ | refine Xw_l ?_ | refine Le_l ?_ | refine Se_l ?_ | refine M_l ?_ | refine A_l ?_ | refine A0_l ?_ | refine A1_l ?_ | refine Mk_l ?_ | refine Kz_l ?_ | refine W_l ?_ | refine C_d (c0) ?_ | refine C_d (c1) ?_ | refine C_d (c2) ?_ | refine C_d (c3) ?_ | refine C_d (c4) ?_ | refine C_d (c5) ?_ | refine SA_d ?_ | refine V_d ?_ | refine L_d ?_ | refine Q_d ?_ | refine X_d ?_ | refine Xs_d ?_ | refine K_d ?_ | refine Ka_d ?_ | refine Lk_d ?_ | refine Up_d ?_ | refine A_d ?_ | refine A0_d ?_ | refine St_d ?_ | refine LU_d ?_ | refine Xw_d ?_ | refine Le_d ?_ | refine Se_d ?_ | refine M_d ?_ | refine N_d ?_ | refine Kz_d ?_ | refine W_d ?_ | fail)
    all_goals exact ⟨rfl, rfl⟩
end Go.Proofs.Ytcjgldobfdldmaa
