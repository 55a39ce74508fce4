/- The law LabelFar. -/
import Derived.Test.YtcplpllbinilmaaLabr2
import Derived.Test.YtcplpllbinilmaaFarp
set_option linter.unusedVariables false
set_option linter.unusedSimpArgs false
namespace Go.Proofs.Ytcplpllbinilmaa
open Go Go.Am Go.Proofs
attribute [local irreducible] W WL DL WO RoundEnd
set_option maxRecDepth 10000
set_option maxHeartbeats 4000000
set_option linter.unusedVariables false
set_option linter.unusedSimpArgs false
theorem farOut (n k : Int) (both : Bool) (h : (decide (n < 0) || decide (n > 900)) = true) : Comp Try.prog 5 [int .i64 n, int .u32 k, bool both] (Am.bool true) := by
  have c0 := alive24
  cases h1 : decide (n < 0) with
  | true =>
    refine Spec.body (C := cx [(36, true)] 106) fits (fn := Try.f5) Try.func5 rfl (by decide) (by decide) (gI ?_)
    repeat' (first | ((first | refine C_r ?_ | refine C0_r ?_ | refine O_r ?_ | refine R_r ?_); (conv => whnf); first | (refine ⟨fun hb => ?_, fun hb => ?_⟩ <;> try exact no_way) | refine A_o ?_ | refine B_o ?_ | refine C_o ?_ | refine R_o ?_ | refine fR ?_ | refine fRk ?_ | refine F_o ?_) | refine C_l (c0) ?_ | refine SA_l ?_ | refine V_l ?_ | refine L_l ?_ | refine Q_l ?_ | refine X_l ?_ | refine Xa_l ?_ | refine Xs_l ?_ | refine K_l ?_ | refine Ka_l ?_ | refine Lk_l ?_ | refine Up_l ?_ | refine Del_l ?_ | refine St_l ?_ | refine LU_l ?_ | refine Xw_l ?_ | refine Le_l ?_ | refine Se_l ?_ | refine M_l ?_ | refine A_l ?_ | refine A0_l ?_ | refine A1_l ?_ | refine Mk_l ?_ | refine Kz_l ?_ | refine W_l ?_ | refine C_d (c0) ?_ | refine SA_d ?_ | refine V_d ?_ | refine L_d ?_ | refine Q_d ?_ | refine X_d ?_ | refine Xs_d ?_ | refine K_d ?_ | refine Ka_d ?_ | refine Lk_d ?_ | refine Up_d ?_ | refine A_d ?_ | refine A0_d ?_ | refine St_d ?_ | refine LU_d ?_ | refine Xw_d ?_ | refine Le_d ?_ | refine Se_d ?_ | refine M_d ?_ | refine Mk_d ?_ | refine N_d ?_ | refine Kz_d ?_ | refine W_d ?_ | fail)
    all_goals exact ⟨rfl, rfl⟩
  | false =>
    rw [h1, Bool.false_or] at h
    refine Spec.body (C := cx [(36, true)] 106) fits (fn := Try.f5) Try.func5 rfl (by decide) (by decide) (gI ?_)
    repeat' (first | ((first | refine C_r ?_ | refine C0_r ?_ | refine O_r ?_ | refine R_r ?_); (conv => whnf); first | (refine ⟨fun hb => ?_, fun hb => ?_⟩ <;> try exact no_way) | refine A_o ?_ | refine B_o ?_ | refine C_o ?_ | refine R_o ?_ | refine fR ?_ | refine fRk ?_ | refine F_o ?_) | refine C_l (c0) ?_ | refine SA_l ?_ | refine V_l ?_ | refine L_l ?_ | refine Q_l ?_ | refine X_l ?_ | refine Xa_l ?_ | refine Xs_l ?_ | refine K_l ?_ | refine Ka_l ?_ | refine Lk_l ?_ | refine Up_l ?_ | refine Del_l ?_ | refine St_l ?_ | refine LU_l ?_ | refine Xw_l ?_ | refine Le_l ?_ | refine Se_l ?_ | refine M_l ?_ | refine A_l ?_ | refine A0_l ?_ | refine A1_l ?_ | refine Mk_l ?_ | refine Kz_l ?_ | refine W_l ?_ | refine C_d (c0) ?_ | refine SA_d ?_ | refine V_d ?_ | refine L_d ?_ | refine Q_d ?_ | refine X_d ?_ | refine Xs_d ?_ | refine K_d ?_ | refine Ka_d ?_ | refine Lk_d ?_ | refine Up_d ?_ | refine A_d ?_ | refine A0_d ?_ | refine St_d ?_ | refine LU_d ?_ | refine Xw_d ?_ | refine Le_d ?_ | refine Se_d ?_ | refine M_d ?_ | refine Mk_d ?_ | refine N_d ?_ | refine Kz_d ?_ | refine W_d ?_ | fail)
    all_goals exact ⟨rfl, rfl⟩
def nrD (k : Int) : Dat := ⟨k, 0, 0, 0, 0, 0, 0, 0, 0⟩
theorem z32 : 0 ≤ (0 : Int) ∧ (0 : Int) < 2 ^ 32 := by decide
theorem z64 : 0 ≤ (0 : Int) ∧ (0 : Int) < 2 ^ 64 := by decide
theorem nrD_ok {k : Int} (hk : 0 ≤ k ∧ k < 2 ^ 32) : (nrD k).ok := ⟨hk, z32, z64, z64, z64, z64, z64, z64, z64⟩
theorem tail_rows (k f : Int) (n : Nat) : (headS k f ++ List.replicate n negS).map Sym.row ++ [[D.sc (.int .i64 0), .sc (.int .i64 0), .sc (.int .i64 0), .sc (.int .i64 6), .sc (.int .u32 10)], [D.sc (.int .i64 1), .sc (.int .i64 0), .sc (.int .i64 0), .sc (.int .i64 6), .sc (.int .u32 11)], [D.sc (.int .i64 2), .sc (.int .i64 0), .sc (.int .i64 0), .sc (.int .i64 6), .sc (.int .u32 12)]] = (farS k f n).map Sym.row := by
  unfold farS
  rw [← List.append_assoc, List.map_append (l₁ := headS k f ++ List.replicate n negS)]; rfl
theorem neg_rows (k f : Int) (n : Nat) : (headS k f ++ List.replicate n negS).map Sym.row ++ [[D.sc (.int .i64 0), .sc (.int .i64 0), .sc (.int .i64 0), .sc (.int .i64 132), .sc (.int .u32 0)]] = (headS k f ++ List.replicate (n + 1) negS).map Sym.row := by
  rw [List.replicate_succ', ← List.append_assoc, List.map_append (l₁ := headS k f ++ List.replicate n negS)]; rfl
theorem farIn (N : Nat) (k f want : Int) (both : Bool) (hN : N ≤ 900) (hk : 0 ≤ k ∧ k < 2 ^ 32) (hf : (both = true ∧ f = 2 ∧ want = 12) ∨ (both = false ∧ f = 0 ∧ want = 10)) : Comp Try.prog 5 [int .i64 N, int .u32 k, bool both] (Am.bool true) := by
  have c0 := alive24
  have hf2 : f = 0 ∨ f = 2 := by rcases hf with ⟨_, h, _⟩ | ⟨_, h, _⟩ <;> omega
  have hr := far_right k f N hf2
  have hfk := far_k k f N hk
  have hlen := far_len k f N
  obtain ⟨out, c1, ho, h1, h2, hok, hrun⟩ := link_runs (by rw [hlen]; omega) hr hfk
  have c5 := link_checks (by rw [hlen]; omega) hr hfk (far_sym k f N)
  rw [← ho] at c5
  have hk1 : 0 ≤ IntKind.u32.wrap (k + 1) ∧ IntKind.u32.wrap (k + 1) < 2 ^ 32 := w32_ok _
  have hne : IntKind.u32.wrap (k + 1) ≠ k := by
    simp [IntKind.wrap, IntKind.bits, IntKind.signed]; omega
  have c3 := runR out (nrD k) (by omega) (nrD_ok hk) hok
  have c4 := runR out (nrD (IntKind.u32.wrap (k + 1))) (by omega) (nrD_ok hk1) hok
  obtain ⟨n1, e1⟩ := hrun (nrD k) Mach.zero
  obtain ⟨n2, e2⟩ := hrun (nrD (IntKind.u32.wrap (k + 1))) Mach.zero
  rw [hlen] at e1 e2
  rw [far_eq k f N (nrD k) hk rfl] at e1
  rw [far_ne k f N (nrD (IntKind.u32.wrap (k + 1))) hk1 hne hf2] at e2
  rw [e1] at c3
  rw [e2] at c4
  unfold lst at c1
  rw [← tail_rows] at c1
  have c6 := num24 0
  clear e1 e2 hrun hok ho hr hfk hne hk1
  unfold run3V at c3 c4
  have q0 : decide ((N : Int) < 0) = false := by rw [decide_eq_false_iff_not]; omega
  have q1 : decide ((N : Int) > 900) = false := by rw [decide_eq_false_iff_not]; omega
  have hw : (if f = 2 then (12 : Int) else 10) = want := by rcases hf with ⟨_, h, h3⟩ | ⟨_, h, h3⟩ <;> subst h <;> subst h3 <;> rfl
  have c4 : Comp Try.prog 13 [lst Ins.row out, .agg ((nrD (IntKind.u32.wrap (k + 1))).row.map .d)] (.tup [.one (.d (.sc (.int .u32 want))), .one (.d (.sc (.int .i64 n2))), .one (.d (.sc (.bool true)))]) := by rw [← hw]; exact c4
  have q3 : (want == want) = true := by simp
  rcases hf with ⟨rfl, rfl, rfl⟩ | ⟨rfl, rfl, rfl⟩
  · refine Spec.body (C := cx [(36, true)] 106) fits (fn := Try.f5) Try.func5 rfl (by decide) (by decide) (gI ?_)
    repeat' (first | ((first | refine C_r ?_ | refine C0_r ?_ | refine O_r ?_ | refine R_r ?_); (conv => whnf); first | (refine ⟨fun hb => ?_, fun hb => ?_⟩ <;> try exact no_way) | refine A_o ?_ | refine B_o ?_ | refine C_o ?_ | refine R_o ?_ | refine fR ?_ | refine fRk ?_ | refine F_o ?_) | refine C_l (c0) ?_ | refine SA_l ?_ | refine V_l ?_ | refine L_l ?_ | refine Q_l ?_ | refine X_l ?_ | refine Xa_l ?_ | refine Xs_l ?_ | refine K_l ?_ | refine Ka_l ?_ | refine Lk_l ?_ | refine Up_l ?_ | refine Del_l ?_ | refine St_l ?_ | refine LU_l ?_ | refine Xw_l ?_ | refine Le_l ?_ | refine Se_l ?_ | refine M_l ?_ | refine A_l ?_ | refine A0_l ?_ | refine A1_l ?_ | refine Mk_l ?_ | refine Kz_l ?_ | refine W_l ?_ | refine C_d (c0) ?_ | refine SA_d ?_ | refine V_d ?_ | refine L_d ?_ | refine Q_d ?_ | refine X_d ?_ | refine Xs_d ?_ | refine K_d ?_ | refine Ka_d ?_ | refine Lk_d ?_ | refine Up_d ?_ | refine A_d ?_ | refine A0_d ?_ | refine St_d ?_ | refine LU_d ?_ | refine Xw_d ?_ | refine Le_d ?_ | refine Se_d ?_ | refine M_d ?_ | refine Mk_d ?_ | refine N_d ?_ | refine Kz_d ?_ | refine W_d ?_ | fail)
    refine wLoop [0, 1, 2, 8, 9] 1 (N + 1) ?_
    refine (fun key => key N 0 (by omega) :
      (∀ (c i : Nat), c + i = N →
      WR2 _ _ _ _ _ (c + 1) [(0, int .i64 N), (1, int .u32 k), (2, bool true), (8, .one (.arr 0 0 ((headS k 2 ++ List.replicate i negS).map Sym.row).length)), (9, int .i64 i)] [.arr 0 true 5 ((headS k 2 ++ List.replicate i negS).map Sym.row)]) → _) ?_
    intro c
    induction c with
    | zero =>
      intro i hi
      have : i = N := by omega
      subst this
      have q : decide ((i : Int) < (i : Int)) = false := by rw [decide_eq_false_iff_not]; omega
      have hlr : (headS k 2).length = 2 := rfl
      refine wR (gI ?_)
      refine gF 0 ?_
      repeat' (first | ((first | refine C_r ?_ | refine C0_r ?_ | refine O_r ?_ | refine R_r ?_); (conv => whnf); first | (refine ⟨fun hb => ?_, fun hb => ?_⟩ <;> try exact no_way) | refine A_o ?_ | refine B_o ?_ | refine C_o ?_ | refine R_o ?_ | refine fR ?_ | refine fRk ?_ | refine F_o ?_) | refine C_l (c1) ?_ | refine C_l (c3) ?_ | refine C_l (c4) ?_ | refine C_l (c5) ?_ | refine C_l (c6) ?_ | refine SA_l ?_ | refine V_l ?_ | refine L_l ?_ | refine Q_l ?_ | refine X_l ?_ | refine Xa_l ?_ | refine Xs_l ?_ | refine K_l ?_ | refine Ka_l ?_ | refine Lk_l ?_ | refine Up_l ?_ | refine Del_l ?_ | refine St_l ?_ | refine LU_l ?_ | refine Xw_l ?_ | refine Le_l ?_ | refine Se_l ?_ | refine M_l ?_ | refine A_l ?_ | refine A0_l ?_ | refine A1_l ?_ | refine Mk_l ?_ | refine Kz_l ?_ | refine W_l ?_ | refine C_d (c1) ?_ | refine C_d (c3) ?_ | refine C_d (c4) ?_ | refine C_d (c5) ?_ | refine C_d (c6) ?_ | refine SA_d ?_ | refine V_d ?_ | refine L_d ?_ | refine Q_d ?_ | refine X_d ?_ | refine Xs_d ?_ | refine K_d ?_ | refine Ka_d ?_ | refine Lk_d ?_ | refine Up_d ?_ | refine A_d ?_ | refine A0_d ?_ | refine St_d ?_ | refine LU_d ?_ | refine Xw_d ?_ | refine Le_d ?_ | refine Se_d ?_ | refine M_d ?_ | refine Mk_d ?_ | refine N_d ?_ | refine Kz_d ?_ | refine W_d ?_ | fail)
      all_goals first | exact ⟨rfl, rfl⟩ | trace_state
    | succ c ih =>
      intro i hi
      have g := ih (i + 1) (by omega)
      rw [← neg_rows] at g
      have hlr : (headS k 2).length = 2 := rfl
      have q : decide ((i : Int) < (N : Int)) = true := by rw [decide_eq_true_eq]; omega
      have e7 : IntKind.i64.wrap ((i : Int) + 1) = ((i + 1 : Nat) : Int) := by rw [wrap_ok (by omega) (by omega)]; omega
      clear ih c1 c3 c4 c5
      refine wR (gI ?_)
      repeat' (first | ((first | refine C_r ?_ | refine C0_r ?_ | refine O_r ?_ | refine R_r ?_); (conv => whnf); first | (refine ⟨fun hb => ?_, fun hb => ?_⟩ <;> try exact no_way) | refine A_o ?_ | refine B_o ?_ | refine C_o ?_ | refine R_o ?_ | refine fR ?_ | refine fRk ?_ | refine F_o ?_) | refine SA_l ?_ | refine V_l ?_ | refine L_l ?_ | refine Q_l ?_ | refine X_l ?_ | refine Xa_l ?_ | refine Xs_l ?_ | refine K_l ?_ | refine Ka_l ?_ | refine Lk_l ?_ | refine Up_l ?_ | refine Del_l ?_ | refine St_l ?_ | refine LU_l ?_ | refine Xw_l ?_ | refine Le_l ?_ | refine Se_l ?_ | refine M_l ?_ | refine A_l ?_ | refine A0_l ?_ | refine A1_l ?_ | refine Mk_l ?_ | refine Kz_l ?_ | refine W_l ?_ | refine SA_d ?_ | refine V_d ?_ | refine L_d ?_ | refine Q_d ?_ | refine X_d ?_ | refine Xs_d ?_ | refine K_d ?_ | refine Ka_d ?_ | refine Lk_d ?_ | refine Up_d ?_ | refine A_d ?_ | refine A0_d ?_ | refine St_d ?_ | refine LU_d ?_ | refine Xw_d ?_ | refine Le_d ?_ | refine Se_d ?_ | refine M_d ?_ | refine Mk_d ?_ | refine N_d ?_ | refine Kz_d ?_ | refine W_d ?_ | fail)
      all_goals first | (rw [e7]; exact rE g) | trace_state
  · refine Spec.body (C := cx [(36, true)] 106) fits (fn := Try.f5) Try.func5 rfl (by decide) (by decide) (gI ?_)
    repeat' (first | ((first | refine C_r ?_ | refine C0_r ?_ | refine O_r ?_ | refine R_r ?_); (conv => whnf); first | (refine ⟨fun hb => ?_, fun hb => ?_⟩ <;> try exact no_way) | refine A_o ?_ | refine B_o ?_ | refine C_o ?_ | refine R_o ?_ | refine fR ?_ | refine fRk ?_ | refine F_o ?_) | refine C_l (c0) ?_ | refine SA_l ?_ | refine V_l ?_ | refine L_l ?_ | refine Q_l ?_ | refine X_l ?_ | refine Xa_l ?_ | refine Xs_l ?_ | refine K_l ?_ | refine Ka_l ?_ | refine Lk_l ?_ | refine Up_l ?_ | refine Del_l ?_ | refine St_l ?_ | refine LU_l ?_ | refine Xw_l ?_ | refine Le_l ?_ | refine Se_l ?_ | refine M_l ?_ | refine A_l ?_ | refine A0_l ?_ | refine A1_l ?_ | refine Mk_l ?_ | refine Kz_l ?_ | refine W_l ?_ | refine C_d (c0) ?_ | refine SA_d ?_ | refine V_d ?_ | refine L_d ?_ | refine Q_d ?_ | refine X_d ?_ | refine Xs_d ?_ | refine K_d ?_ | refine Ka_d ?_ | refine Lk_d ?_ | refine Up_d ?_ | refine A_d ?_ | refine A0_d ?_ | refine St_d ?_ | refine LU_d ?_ | refine Xw_d ?_ | refine Le_d ?_ | refine Se_d ?_ | refine M_d ?_ | refine Mk_d ?_ | refine N_d ?_ | refine Kz_d ?_ | refine W_d ?_ | fail)
    refine wLoop [0, 1, 2, 8, 9] 1 (N + 1) ?_
    refine (fun key => key N 0 (by omega) :
      (∀ (c i : Nat), c + i = N →
      WR2 _ _ _ _ _ (c + 1) [(0, int .i64 N), (1, int .u32 k), (2, bool false), (8, .one (.arr 0 0 ((headS k 0 ++ List.replicate i negS).map Sym.row).length)), (9, int .i64 i)] [.arr 0 true 5 ((headS k 0 ++ List.replicate i negS).map Sym.row)]) → _) ?_
    intro c
    induction c with
    | zero =>
      intro i hi
      have : i = N := by omega
      subst this
      have q : decide ((i : Int) < (i : Int)) = false := by rw [decide_eq_false_iff_not]; omega
      have hlr : (headS k 0).length = 2 := rfl
      refine wR (gI ?_)
      refine gF 0 ?_
      repeat' (first | ((first | refine C_r ?_ | refine C0_r ?_ | refine O_r ?_ | refine R_r ?_); (conv => whnf); first | (refine ⟨fun hb => ?_, fun hb => ?_⟩ <;> try exact no_way) | refine A_o ?_ | refine B_o ?_ | refine C_o ?_ | refine R_o ?_ | refine fR ?_ | refine fRk ?_ | refine F_o ?_) | refine C_l (c1) ?_ | refine C_l (c3) ?_ | refine C_l (c4) ?_ | refine C_l (c5) ?_ | refine C_l (c6) ?_ | refine SA_l ?_ | refine V_l ?_ | refine L_l ?_ | refine Q_l ?_ | refine X_l ?_ | refine Xa_l ?_ | refine Xs_l ?_ | refine K_l ?_ | refine Ka_l ?_ | refine Lk_l ?_ | refine Up_l ?_ | refine Del_l ?_ | refine St_l ?_ | refine LU_l ?_ | refine Xw_l ?_ | refine Le_l ?_ | refine Se_l ?_ | refine M_l ?_ | refine A_l ?_ | refine A0_l ?_ | refine A1_l ?_ | refine Mk_l ?_ | refine Kz_l ?_ | refine W_l ?_ | refine C_d (c1) ?_ | refine C_d (c3) ?_ | refine C_d (c4) ?_ | refine C_d (c5) ?_ | refine C_d (c6) ?_ | refine SA_d ?_ | refine V_d ?_ | refine L_d ?_ | refine Q_d ?_ | refine X_d ?_ | refine Xs_d ?_ | refine K_d ?_ | refine Ka_d ?_ | refine Lk_d ?_ | refine Up_d ?_ | refine A_d ?_ | refine A0_d ?_ | refine St_d ?_ | refine LU_d ?_ | refine Xw_d ?_ | refine Le_d ?_ | refine Se_d ?_ | refine M_d ?_ | refine Mk_d ?_ | refine N_d ?_ | refine Kz_d ?_ | refine W_d ?_ | fail)
      all_goals first | exact ⟨rfl, rfl⟩ | trace_state
    | succ c ih =>
      intro i hi
      have g := ih (i + 1) (by omega)
      rw [← neg_rows] at g
      have hlr : (headS k 0).length = 2 := rfl
      have q : decide ((i : Int) < (N : Int)) = true := by rw [decide_eq_true_eq]; omega
      have e7 : IntKind.i64.wrap ((i : Int) + 1) = ((i + 1 : Nat) : Int) := by rw [wrap_ok (by omega) (by omega)]; omega
      clear ih c1 c3 c4 c5
      refine wR (gI ?_)
      repeat' (first | ((first | refine C_r ?_ | refine C0_r ?_ | refine O_r ?_ | refine R_r ?_); (conv => whnf); first | (refine ⟨fun hb => ?_, fun hb => ?_⟩ <;> try exact no_way) | refine A_o ?_ | refine B_o ?_ | refine C_o ?_ | refine R_o ?_ | refine fR ?_ | refine fRk ?_ | refine F_o ?_) | refine SA_l ?_ | refine V_l ?_ | refine L_l ?_ | refine Q_l ?_ | refine X_l ?_ | refine Xa_l ?_ | refine Xs_l ?_ | refine K_l ?_ | refine Ka_l ?_ | refine Lk_l ?_ | refine Up_l ?_ | refine Del_l ?_ | refine St_l ?_ | refine LU_l ?_ | refine Xw_l ?_ | refine Le_l ?_ | refine Se_l ?_ | refine M_l ?_ | refine A_l ?_ | refine A0_l ?_ | refine A1_l ?_ | refine Mk_l ?_ | refine Kz_l ?_ | refine W_l ?_ | refine SA_d ?_ | refine V_d ?_ | refine L_d ?_ | refine Q_d ?_ | refine X_d ?_ | refine Xs_d ?_ | refine K_d ?_ | refine Ka_d ?_ | refine Lk_d ?_ | refine Up_d ?_ | refine A_d ?_ | refine A0_d ?_ | refine St_d ?_ | refine LU_d ?_ | refine Xw_d ?_ | refine Le_d ?_ | refine Se_d ?_ | refine M_d ?_ | refine Mk_d ?_ | refine N_d ?_ | refine Kz_d ?_ | refine W_d ?_ | fail)
      all_goals first | (rw [e7]; exact rE g) | trace_state
theorem labelFar_typed {x0 x1 x2 : List D} (y0 : Typed Try.prog 3 x0) (y1 : Typed Try.prog 23 x1) (y2 : Typed Try.prog 4 x2) : Comp Try.prog 5 [argV (aggTy Try.prog 3) x0, argV (aggTy Try.prog 23) x1, argV (aggTy Try.prog 4) x2] (Am.bool true) := by
  have a0 : aggTy Try.prog 3 = false := by unfold aggTy; rw [Try.underlying3]
  have a1 : aggTy Try.prog 23 = false := by unfold aggTy; rw [Try.underlying23]
  have a2 : aggTy Try.prog 4 = false := by unfold aggTy; rw [Try.underlying4]
  obtain ⟨n, rfl, _⟩ := y0.int_inv Try.underlying3
  obtain ⟨k, rfl, hk⟩ := u32_typed y1
  obtain ⟨both, rfl⟩ := y2.bool_inv Try.underlying4
  rw [a0, a1, a2]
  cases h : (decide (n < 0) || decide (n > 900)) with
  | true => exact farOut n k both h
  | false =>
    rw [Bool.or_eq_false_iff, decide_eq_false_iff_not, decide_eq_false_iff_not] at h
    obtain ⟨N, rfl⟩ := Int.eq_ofNat_of_zero_le (show 0 ≤ n by omega)
    cases both with
    | true => exact farIn N k 2 12 true (by omega) hk (.inl ⟨rfl, rfl, rfl⟩)
    | false => exact farIn N k 0 10 false (by omega) hk (.inr ⟨rfl, rfl, rfl⟩)
end Go.Proofs.Ytcplpllbinilmaa
