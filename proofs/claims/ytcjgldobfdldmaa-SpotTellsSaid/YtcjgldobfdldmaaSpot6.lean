/- A part of a proof: functions of the program, walked over the abstract machine. -/
import Derived.Test.YtcjgldobfdldmaaSpot5
set_option linter.unusedVariables false
set_option linter.unusedSimpArgs false
namespace Go.Proofs.Ytcjgldobfdldmaa
open Go Go.Am Go.Proofs
attribute [local irreducible] W WL DL WO RoundEnd
set_option maxRecDepth 10000
set_option maxHeartbeats 4000000
theorem walk_pos (p : Nat × Nat) (bs : List UInt8) (h : 1 ≤ p.1 ∧ 1 ≤ p.2) : 1 ≤ (walkF p bs).1 ∧ 1 ≤ (walkF p bs).2 := by
  have := walk_rev p bs.reverse
  rw [List.reverse_reverse, List.count_reverse, List.length_reverse] at this
  rw [this]
  split
  · simp; omega
  · simp; omega
theorem order6 (s : ByteArray) (i k : Int) (hs : s.size < 2 ^ 60) : Comp Try.prog 3 [str s, int .i64 i, int .i64 k] (bool true) := by
  have c0 := alive6
  by_cases h1 : 300 < s.size
  · have b1 : decide ((s.size : Int) > 300) = true := decide_eq_true (by omega)
    refine Spec.body (C := cx [] 74) fits (fn := Try.f3) Try.func3 rfl (by decide) (by decide) (gI ?_)
    repeat' (first | ((first | refine C_r ?_ | refine C0_r ?_ | refine O_r ?_ | refine R_r ?_); (conv => whnf); first | (refine ⟨fun hb => ?_, fun hb => ?_⟩ <;> try exact no_way) | refine A_o ?_ | refine B_o ?_ | refine C_o ?_ | refine R_o ?_ | refine fR ?_ | refine fRk ?_ | refine F_o ?_) | refine C_l (c0) ?_ | refine SA_l ?_ | refine V_l ?_ | refine L_l ?_ | refine Q_l ?_ | refine X_l ?_ | refine Xa_l ?_ | refine Xs_l ?_ | refine K_l ?_ | refine Ka_l ?_ | refine Lk_l ?_ | refine Up_l ?_ | refine Del_l ?_ | refine St_l ?_ | refine LU_l ?_ | refine Xw_l ?_ | refine Le_l ?_ | refine Se_l ?_ | refine M_l ?_ | refine A_l ?_ | refine A0_l ?_ | refine A1_l ?_ | refine Mk_l ?_ | refine Kz_l ?_ | refine W_l ?_ | refine C_d (c0) ?_ | refine SA_d ?_ | refine V_d ?_ | refine L_d ?_ | refine Q_d ?_ | refine X_d ?_ | refine Xs_d ?_ | refine K_d ?_ | refine Ka_d ?_ | refine Lk_d ?_ | refine Up_d ?_ | refine A_d ?_ | refine A0_d ?_ | refine St_d ?_ | refine LU_d ?_ | refine Xw_d ?_ | refine Le_d ?_ | refine Se_d ?_ | refine M_d ?_ | refine N_d ?_ | refine Kz_d ?_ | refine W_d ?_ | fail)
    exact ⟨rfl, rfl⟩
  have b1 : decide ((s.size : Int) > 300) = false := decide_eq_false (by omega)
  by_cases h3 : i < 0
  · have b3 : decide (i < 0) = true := decide_eq_true h3
    refine Spec.body (C := cx [] 74) fits (fn := Try.f3) Try.func3 rfl (by decide) (by decide) (gI ?_)
    repeat' (first | ((first | refine C_r ?_ | refine C0_r ?_ | refine O_r ?_ | refine R_r ?_); (conv => whnf); first | (refine ⟨fun hb => ?_, fun hb => ?_⟩ <;> try exact no_way) | refine A_o ?_ | refine B_o ?_ | refine C_o ?_ | refine R_o ?_ | refine fR ?_ | refine fRk ?_ | refine F_o ?_) | refine C_l (c0) ?_ | refine SA_l ?_ | refine V_l ?_ | refine L_l ?_ | refine Q_l ?_ | refine X_l ?_ | refine Xa_l ?_ | refine Xs_l ?_ | refine K_l ?_ | refine Ka_l ?_ | refine Lk_l ?_ | refine Up_l ?_ | refine Del_l ?_ | refine St_l ?_ | refine LU_l ?_ | refine Xw_l ?_ | refine Le_l ?_ | refine Se_l ?_ | refine M_l ?_ | refine A_l ?_ | refine A0_l ?_ | refine A1_l ?_ | refine Mk_l ?_ | refine Kz_l ?_ | refine W_l ?_ | refine C_d (c0) ?_ | refine SA_d ?_ | refine V_d ?_ | refine L_d ?_ | refine Q_d ?_ | refine X_d ?_ | refine Xs_d ?_ | refine K_d ?_ | refine Ka_d ?_ | refine Lk_d ?_ | refine Up_d ?_ | refine A_d ?_ | refine A0_d ?_ | refine St_d ?_ | refine LU_d ?_ | refine Xw_d ?_ | refine Le_d ?_ | refine Se_d ?_ | refine M_d ?_ | refine N_d ?_ | refine Kz_d ?_ | refine W_d ?_ | fail)
    exact ⟨rfl, rfl⟩
  have b3 : decide (i < 0) = false := decide_eq_false h3
  by_cases h5 : k ≤ i
  · have b5 : decide (k ≤ i) = true := decide_eq_true h5
    refine Spec.body (C := cx [] 74) fits (fn := Try.f3) Try.func3 rfl (by decide) (by decide) (gI ?_)
    repeat' (first | ((first | refine C_r ?_ | refine C0_r ?_ | refine O_r ?_ | refine R_r ?_); (conv => whnf); first | (refine ⟨fun hb => ?_, fun hb => ?_⟩ <;> try exact no_way) | refine A_o ?_ | refine B_o ?_ | refine C_o ?_ | refine R_o ?_ | refine fR ?_ | refine fRk ?_ | refine F_o ?_) | refine C_l (c0) ?_ | refine SA_l ?_ | refine V_l ?_ | refine L_l ?_ | refine Q_l ?_ | refine X_l ?_ | refine Xa_l ?_ | refine Xs_l ?_ | refine K_l ?_ | refine Ka_l ?_ | refine Lk_l ?_ | refine Up_l ?_ | refine Del_l ?_ | refine St_l ?_ | refine LU_l ?_ | refine Xw_l ?_ | refine Le_l ?_ | refine Se_l ?_ | refine M_l ?_ | refine A_l ?_ | refine A0_l ?_ | refine A1_l ?_ | refine Mk_l ?_ | refine Kz_l ?_ | refine W_l ?_ | refine C_d (c0) ?_ | refine SA_d ?_ | refine V_d ?_ | refine L_d ?_ | refine Q_d ?_ | refine X_d ?_ | refine Xs_d ?_ | refine K_d ?_ | refine Ka_d ?_ | refine Lk_d ?_ | refine Up_d ?_ | refine A_d ?_ | refine A0_d ?_ | refine St_d ?_ | refine LU_d ?_ | refine Xw_d ?_ | refine Le_d ?_ | refine Se_d ?_ | refine M_d ?_ | refine N_d ?_ | refine Kz_d ?_ | refine W_d ?_ | fail)
    exact ⟨rfl, rfl⟩
  have b5 : decide (k ≤ i) = false := decide_eq_false h5
  by_cases h4 : (s.size : Int) < k
  · have b4 : decide (k > (s.size : Int)) = true := decide_eq_true h4
    refine Spec.body (C := cx [] 74) fits (fn := Try.f3) Try.func3 rfl (by decide) (by decide) (gI ?_)
    repeat' (first | ((first | refine C_r ?_ | refine C0_r ?_ | refine O_r ?_ | refine R_r ?_); (conv => whnf); first | (refine ⟨fun hb => ?_, fun hb => ?_⟩ <;> try exact no_way) | refine A_o ?_ | refine B_o ?_ | refine C_o ?_ | refine R_o ?_ | refine fR ?_ | refine fRk ?_ | refine F_o ?_) | refine C_l (c0) ?_ | refine SA_l ?_ | refine V_l ?_ | refine L_l ?_ | refine Q_l ?_ | refine X_l ?_ | refine Xa_l ?_ | refine Xs_l ?_ | refine K_l ?_ | refine Ka_l ?_ | refine Lk_l ?_ | refine Up_l ?_ | refine Del_l ?_ | refine St_l ?_ | refine LU_l ?_ | refine Xw_l ?_ | refine Le_l ?_ | refine Se_l ?_ | refine M_l ?_ | refine A_l ?_ | refine A0_l ?_ | refine A1_l ?_ | refine Mk_l ?_ | refine Kz_l ?_ | refine W_l ?_ | refine C_d (c0) ?_ | refine SA_d ?_ | refine V_d ?_ | refine L_d ?_ | refine Q_d ?_ | refine X_d ?_ | refine Xs_d ?_ | refine K_d ?_ | refine Ka_d ?_ | refine Lk_d ?_ | refine Up_d ?_ | refine A_d ?_ | refine A0_d ?_ | refine St_d ?_ | refine LU_d ?_ | refine Xw_d ?_ | refine Le_d ?_ | refine Se_d ?_ | refine M_d ?_ | refine N_d ?_ | refine Kz_d ?_ | refine W_d ?_ | fail)
    exact ⟨rfl, rfl⟩
  have b4 : decide (k > (s.size : Int)) = false := decide_eq_false h4
  obtain ⟨n, rfl⟩ := Int.eq_ofNat_of_zero_le (a := i) (by omega)
  obtain ⟨m, rfl⟩ := Int.eq_ofNat_of_zero_le (a := k) (by omega)
  have c1 := atR s n (by omega)
  have c2 := atR s m (by omega)
  have hsz : s.size = s.data.toList.length := rfl
  have en := at_nat s n (by omega)
  have em := at_nat s m (by omega)
  have hpos := walk_pos (1, 1) (s.data.toList.take n) (by decide)
  rw [← en] at hpos
  have hord := walk_order (atF s n) ((s.data.toList.take m).drop n)
  have hm : walkF (atF s n) ((s.data.toList.take m).drop n) = atF s m := by
    rw [en, em, ← walk_append]
    congr 1
    have : s.data.toList.take n = (s.data.toList.take m).take n := by rw [List.take_take, Nat.min_eq_left (by omega)]
    rw [this, List.take_append_drop]
  have hdl : ((s.data.toList.take m).drop n).length = m - n := by rw [List.length_drop, List.length_take]; omega
  rw [hm, hdl] at hord
  have hs1 := at_small s n
  have hs2 := at_small s m
  generalize atF s n = a at *
  generalize atF s m = b at *
  obtain ⟨a1, a2⟩ := a
  obtain ⟨p1, p2⟩ := b
  simp only at *
  have f1 : a1 < 2 ^ 53 := by omega
  have f2 : a2 < 2 ^ 53 := by omega
  have f3 : p1 < 2 ^ 53 := by omega
  have f4 : p2 < 2 ^ 53 := by omega
  have f5 : (1 : Nat) < 2 ^ 53 := by decide
  have d1 : decide (a1 ≥ 1) = true := decide_eq_true hpos.1
  have d2 : decide (a2 ≥ 1) = true := decide_eq_true hpos.2
  rcases hord with h | ⟨h, h'⟩
  · have d3 : decide (a1 < p1) = true := decide_eq_true h
    refine Spec.body (C := cx [] 74) fits (fn := Try.f3) Try.func3 rfl (by decide) (by decide) (gI ?_)
    repeat' (first | ((first | refine C_r ?_ | refine C0_r ?_ | refine O_r ?_ | refine R_r ?_); (conv => whnf); first | (refine ⟨fun hb => ?_, fun hb => ?_⟩ <;> try exact no_way) | refine A_o ?_ | refine B_o ?_ | refine C_o ?_ | refine R_o ?_ | refine fR ?_ | refine fRk ?_ | refine F_o ?_) | refine C_l (c0) ?_ | refine C_l (c1) ?_ | refine C_l (c2) ?_ | (refine lVB fits (fun hb => ?_) (fun hb => ?_) <;> try exact no_way) | refine SA_l ?_ | refine V_l ?_ | refine L_l ?_ | refine Q_l ?_ | refine X_l ?_ | refine Xa_l ?_ | refine Xs_l ?_ | refine K_l ?_ | refine Ka_l ?_ | refine Lk_l ?_ | refine Up_l ?_ | refine Del_l ?_ | refine St_l ?_ | refine LU_l ?_ | refine Xw_l ?_ | refine Le_l ?_ | refine Se_l ?_ | refine M_l ?_ | refine A_l ?_ | refine A0_l ?_ | refine A1_l ?_ | refine Mk_l ?_ | refine Kz_l ?_ | refine W_l ?_ | refine C_d (c0) ?_ | refine C_d (c1) ?_ | refine C_d (c2) ?_ | (refine dVB fits (fun hb => ?_) (fun hb => ?_) <;> try exact no_way) | refine SA_d ?_ | refine V_d ?_ | refine L_d ?_ | refine Q_d ?_ | refine X_d ?_ | refine Xs_d ?_ | refine K_d ?_ | refine Ka_d ?_ | refine Lk_d ?_ | refine Up_d ?_ | refine A_d ?_ | refine A0_d ?_ | refine St_d ?_ | refine LU_d ?_ | refine Xw_d ?_ | refine Le_d ?_ | refine Se_d ?_ | refine M_d ?_ | refine N_d ?_ | refine Kz_d ?_ | refine W_d ?_ | fail)
    all_goals first | exact ⟨rfl, rfl⟩ | trace_state
  · have d3 : decide (a1 < p1) = false := decide_eq_false (by omega)
    subst h
    have d4 : fEq (F a1) (F a1) = true := fEq_self _ f1
    have hw : IntKind.wrap .i64 ((m : Int) - (n : Int)) = (m : Int) - (n : Int) := wrap_ok (by omega) (by omega)
    have hle : a2 ≤ p2 := by omega
    have hw0 : 0 ≤ IntKind.wrap .i64 ((m : Int) - (n : Int)) := by omega
    have d5 : fEq (F (p2 - a2)) (F (IntKind.wrap .i64 ((m : Int) - (n : Int))).toNat) = true := by
      have : (IntKind.wrap .i64 ((m : Int) - (n : Int))).toNat = p2 - a2 := by rw [hw]; omega
      rw [this]
      exact fEq_self _ (by omega)
    have d6 : fEq (F (p2 - a2)) (FloatKind.f64.nearest (IntKind.wrap .i64 ((m : Int) - (n : Int)))) = true := by
      have : IntKind.wrap .i64 ((m : Int) - (n : Int)) = ((p2 - a2 : Nat) : Int) := by rw [hw]; omega
      rw [this, nearest_F]
      exact fEq_self _ (by omega)
    refine Spec.body (C := cx [] 74) fits (fn := Try.f3) Try.func3 rfl (by decide) (by decide) (gI ?_)
    repeat' (first | ((first | refine C_r ?_ | refine C0_r ?_ | refine O_r ?_ | refine R_r ?_); (conv => whnf); first | (refine ⟨fun hb => ?_, fun hb => ?_⟩ <;> try exact no_way) | refine A_o ?_ | refine B_o ?_ | refine C_o ?_ | refine R_o ?_ | refine fR ?_ | refine fRk ?_ | refine F_o ?_) | refine C_l (c0) ?_ | refine C_l (c1) ?_ | refine C_l (c2) ?_ | (refine lVB fits (fun hb => ?_) (fun hb => ?_) <;> try exact no_way) | refine SA_l ?_ | refine V_l ?_ | refine L_l ?_ | refine Q_l ?_ | refine X_l ?_ | refine Xa_l ?_ | refine Xs_l ?_ | refine K_l ?_ | refine Ka_l ?_ | refine Lk_l ?_ | refine Up_l ?_ | refine Del_l ?_ | refine St_l ?_ | refine LU_l ?_ | refine Xw_l ?_ | refine Le_l ?_ | refine Se_l ?_ | refine M_l ?_ | refine A_l ?_ | refine A0_l ?_ | refine A1_l ?_ | refine Mk_l ?_ | refine Kz_l ?_ | refine W_l ?_ | refine C_d (c0) ?_ | refine C_d (c1) ?_ | refine C_d (c2) ?_ | (refine dVB fits (fun hb => ?_) (fun hb => ?_) <;> try exact no_way) | refine SA_d ?_ | refine V_d ?_ | refine L_d ?_ | refine Q_d ?_ | refine X_d ?_ | refine Xs_d ?_ | refine K_d ?_ | refine Ka_d ?_ | refine Lk_d ?_ | refine Up_d ?_ | refine A_d ?_ | refine A0_d ?_ | refine St_d ?_ | refine LU_d ?_ | refine Xw_d ?_ | refine Le_d ?_ | refine Se_d ?_ | refine M_d ?_ | refine N_d ?_ | refine Kz_d ?_ | refine W_d ?_ | fail)
    all_goals first | exact ⟨rfl, rfl⟩ | trace_state
theorem s_bound {s : ByteArray} (h : s.size ≤ reachBytes) : s.size < 2 ^ 60 := by
  have : reachBytes = 140737488351232 := rfl
  omega
theorem tells6_typed {x0 x1 x2 x3 : List D} (y0 : Typed Try.prog 9 x0) (y1 : Typed Try.prog 3 x1) (y2 : Typed Try.prog 25 x2) (y3 : Typed Try.prog 25 x3) :
    Comp Try.prog 4 [argV (aggTy Try.prog 9) x0, argV (aggTy Try.prog 3) x1, argV (aggTy Try.prog 25) x2, argV (aggTy Try.prog 25) x3] (Am.bool true) := by
  have a0 : aggTy Try.prog 9 = false := by unfold aggTy; rw [Try.underlying9]
  have a1 : aggTy Try.prog 3 = false := by unfold aggTy; rw [Try.underlying3]
  have a2 : aggTy Try.prog 25 = false := by unfold aggTy; rw [Try.underlying25]
  obtain ⟨s, rfl, hs⟩ := y0.str_inv Try.underlying9
  obtain ⟨n, rfl, _⟩ := y1.int_inv Try.underlying3
  obtain ⟨y, rfl⟩ := y2.flt_inv Try.underlying25
  obtain ⟨x, rfl⟩ := y3.flt_inv Try.underlying25
  rw [a0, a1, a2]
  exact tells6 s n y x (s_bound hs)
theorem back6_typed {x0 x1 x2 : List D} (y0 : Typed Try.prog 9 x0) (y1 : Typed Try.prog 9 x1) (y2 : Typed Try.prog 3 x2) :
    Comp Try.prog 5 [argV (aggTy Try.prog 9) x0, argV (aggTy Try.prog 9) x1, argV (aggTy Try.prog 3) x2] (Am.bool true) := by
  have a0 : aggTy Try.prog 9 = false := by unfold aggTy; rw [Try.underlying9]
  have a1 : aggTy Try.prog 3 = false := by unfold aggTy; rw [Try.underlying3]
  obtain ⟨s, rfl, hs⟩ := y0.str_inv Try.underlying9
  obtain ⟨t, rfl, ht⟩ := y1.str_inv Try.underlying9
  obtain ⟨n, rfl, _⟩ := y2.int_inv Try.underlying3
  rw [a0, a1]
  exact back6 s t n (s_bound hs) (s_bound ht)
theorem order6_typed {x0 x1 x2 : List D} (y0 : Typed Try.prog 9 x0) (y1 : Typed Try.prog 3 x1) (y2 : Typed Try.prog 3 x2) :
    Comp Try.prog 3 [argV (aggTy Try.prog 9) x0, argV (aggTy Try.prog 3) x1, argV (aggTy Try.prog 3) x2] (Am.bool true) := by
  have a0 : aggTy Try.prog 9 = false := by unfold aggTy; rw [Try.underlying9]
  have a1 : aggTy Try.prog 3 = false := by unfold aggTy; rw [Try.underlying3]
  obtain ⟨s, rfl, hs⟩ := y0.str_inv Try.underlying9
  obtain ⟨n, rfl, _⟩ := y1.int_inv Try.underlying3
  obtain ⟨m, rfl, _⟩ := y2.int_inv Try.underlying3
  rw [a0, a1]
  exact order6 s n m (s_bound hs)
end Go.Proofs.Ytcjgldobfdldmaa
