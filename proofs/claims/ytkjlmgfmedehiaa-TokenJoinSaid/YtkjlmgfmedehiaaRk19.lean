/- The law TokenJoin. -/
import Derived.Test.YtkjlmgfmedehiaaRk16
import Derived.Test.YtkjlmgfmedehiaaRk17
set_option linter.unusedVariables false
set_option linter.unusedSimpArgs false
namespace Go.Proofs.Ytkjlmgfmedehiaa
open Go Go.Am Go.Proofs
attribute [local irreducible] W WL DL WO RoundEnd
set_option maxRecDepth 10000
set_option maxHeartbeats 4000000
set_option linter.unusedVariables false
set_option linter.unusedSimpArgs false
theorem rv_cadd {P : Program} {ρ : Operand → Option V} {o : Oper} {t t' : TypeId} {x y : Operand} {p1 p2 q1 q2 a1 a2 b1 b2 : Nat} (ho : o.op = .binOp .add t x y t') (hx : ρ x = some (.one (.d (.sc (.complex .f64 p1 p2))))) (hy : ρ y = some (.one (.d (.sc (.complex .f64 q1 q2))))) (e1 : p1 = F a1) (e2 : p2 = F a2) (e3 : q1 = F b1) (e4 : q2 = F b2) (h1 : a1 + b1 < 2 ^ 53) (h2 : a2 + b2 < 2 ^ 53) (w : World) :
    (execOp (scalEnv ρ) o).run P w = .ok (.value (.complex .f64 (F (a1 + b1)) (F (a2 + b2)))) w := by
  subst e1; subst e2; subst e3; subst e4
  unfold execOp
  simp only [ho, scalEnv_of hx rfl, scalEnv_of hy rfl]
  have g1 : FloatKind.f64.format.add (F a1) (F b1) = some (F (a1 + b1)) := add_F h1
  have g2 : FloatKind.f64.format.add (F a2) (F b2) = some (F (a2 + b2)) := add_F h2
  simp [eqGuard, binOp, Op.complexOp, Op.Complex.arith, Op.floatArith, g1, g2]
theorem join_list (s t : ByteArray) : (s ++ ⟨#[10]⟩ ++ t).data.toList = s.data.toList ++ 10 :: t.data.toList := by
  rw [ByteArray.data_append, ByteArray.data_append, Array.toList_append, Array.toList_append]
  simp
theorem joinErr1 [GVals] (s t : ByteArray) (p p2 : Nat × Nat) (e f : Int) (rows : List (List D)) (b1 : decide ((s.size : Int) > 500) = false) (b2 : decide ((t.size : Int) > 500) = false) (c1 : Comp Try.prog 14 [str s, int .i64 1] (splitV 1 (.error p))) (c2 : Comp Try.prog 14 [str t, int .i64 1] (.tup [.one (.d (.list rows)), faultV e f p2])) : Comp Try.prog 8 [str s, str t] (Am.bool true) := by
  have c0 := alive9
  unfold splitV faultV at c1
  unfold faultV at c2
  refine Spec.body (C := cx [] 115) fits (fn := Try.f8) Try.func8 rfl (by decide) (by decide) (gI ?_)
  repeat' (first | ((first | refine C_r ?_ | refine C0_r ?_ | refine O_r ?_ | refine R_r ?_); (conv => whnf); first | (refine ⟨fun hb => ?_, fun hb => ?_⟩ <;> try exact no_way) | refine A_o ?_ | refine B_o ?_ | refine C_o ?_ | refine R_o ?_ | refine fR ?_ | refine fRk ?_ | refine F_o ?_) | refine C_l (c0) ?_ | refine C_l (c1) ?_ | refine C_l (c2) ?_ | refine SA_l ?_ | refine V_l ?_ | refine L_l ?_ | refine Q_l ?_ | refine X_l ?_ | refine Xa_l ?_ | refine Xs_l ?_ | refine K_l ?_ | refine Ka_l ?_ | refine Lk_l ?_ | refine Up_l ?_ | refine Del_l ?_ | refine St_l ?_ | refine LU_l ?_ | refine Xw_l ?_ | refine Le_l ?_ | refine Se_l ?_ | refine M_l ?_ | refine A_l ?_ | refine A0_l ?_ | refine A1_l ?_ | refine Mk_l ?_ | refine Kz_l ?_ | refine W_l ?_ | refine C_d (c0) ?_ | refine C_d (c1) ?_ | refine C_d (c2) ?_ | refine SA_d ?_ | refine V_d ?_ | refine L_d ?_ | refine Q_d ?_ | refine X_d ?_ | refine Xs_d ?_ | refine K_d ?_ | refine Ka_d ?_ | refine Lk_d ?_ | refine Up_d ?_ | refine A_d ?_ | refine A0_d ?_ | refine St_d ?_ | refine LU_d ?_ | refine Xw_d ?_ | refine Le_d ?_ | refine Se_d ?_ | refine M_d ?_ | refine Mk_d ?_ | refine N_d ?_ | refine Kz_d ?_ | refine W_d ?_ | fail)
  all_goals first | exact ⟨rfl, rfl⟩ | exact absurd (show true = false from hb) (by decide)
theorem joinErr2 [GVals] (s t : ByteArray) (p : Nat × Nat) (b1 : decide ((s.size : Int) > 500) = false) (b2 : decide ((t.size : Int) > 500) = false) (l : List Tok) (c1 : Comp Try.prog 14 [str s, int .i64 1] (splitV 1 (.ok l))) (c2 : Comp Try.prog 14 [str t, int .i64 1] (splitV 1 (.error p))) : Comp Try.prog 8 [str s, str t] (Am.bool true) := by
  have c0 := alive9
  unfold splitV faultV at c1 c2
  refine Spec.body (C := cx [] 115) fits (fn := Try.f8) Try.func8 rfl (by decide) (by decide) (gI ?_)
  repeat' (first | ((first | refine C_r ?_ | refine C0_r ?_ | refine O_r ?_ | refine R_r ?_); (conv => whnf); first | (refine ⟨fun hb => ?_, fun hb => ?_⟩ <;> try exact no_way) | refine A_o ?_ | refine B_o ?_ | refine C_o ?_ | refine R_o ?_ | refine fR ?_ | refine fRk ?_ | refine F_o ?_) | refine C_l (c0) ?_ | refine C_l (c1) ?_ | refine C_l (c2) ?_ | refine SA_l ?_ | refine V_l ?_ | refine L_l ?_ | refine Q_l ?_ | refine X_l ?_ | refine Xa_l ?_ | refine Xs_l ?_ | refine K_l ?_ | refine Ka_l ?_ | refine Lk_l ?_ | refine Up_l ?_ | refine Del_l ?_ | refine St_l ?_ | refine LU_l ?_ | refine Xw_l ?_ | refine Le_l ?_ | refine Se_l ?_ | refine M_l ?_ | refine A_l ?_ | refine A0_l ?_ | refine A1_l ?_ | refine Mk_l ?_ | refine Kz_l ?_ | refine W_l ?_ | refine C_d (c0) ?_ | refine C_d (c1) ?_ | refine C_d (c2) ?_ | refine SA_d ?_ | refine V_d ?_ | refine L_d ?_ | refine Q_d ?_ | refine X_d ?_ | refine Xs_d ?_ | refine K_d ?_ | refine Ka_d ?_ | refine Lk_d ?_ | refine Up_d ?_ | refine A_d ?_ | refine A0_d ?_ | refine St_d ?_ | refine LU_d ?_ | refine Xw_d ?_ | refine Le_d ?_ | refine Se_d ?_ | refine M_d ?_ | refine Mk_d ?_ | refine N_d ?_ | refine Kz_d ?_ | refine W_d ?_ | fail)
  all_goals first | exact ⟨rfl, rfl⟩ | exact absurd (show true = false from hb) (by decide)
theorem joinBig [GVals] (s t : ByteArray) (h : (decide ((s.size : Int) > 500) || decide ((t.size : Int) > 500)) = true) : Comp Try.prog 8 [str s, str t] (Am.bool true) := by
  have c0 := alive9
  cases b1 : decide ((s.size : Int) > 500) with
  | true =>
    refine Spec.body (C := cx [] 115) fits (fn := Try.f8) Try.func8 rfl (by decide) (by decide) (gI ?_)
    repeat' (first | ((first | refine C_r ?_ | refine C0_r ?_ | refine O_r ?_ | refine R_r ?_); (conv => whnf); first | (refine ⟨fun hb => ?_, fun hb => ?_⟩ <;> try exact no_way) | refine A_o ?_ | refine B_o ?_ | refine C_o ?_ | refine R_o ?_ | refine fR ?_ | refine fRk ?_ | refine F_o ?_) | refine C_l (c0) ?_ | refine SA_l ?_ | refine V_l ?_ | refine L_l ?_ | refine Q_l ?_ | refine X_l ?_ | refine Xa_l ?_ | refine Xs_l ?_ | refine K_l ?_ | refine Ka_l ?_ | refine Lk_l ?_ | refine Up_l ?_ | refine Del_l ?_ | refine St_l ?_ | refine LU_l ?_ | refine Xw_l ?_ | refine Le_l ?_ | refine Se_l ?_ | refine M_l ?_ | refine A_l ?_ | refine A0_l ?_ | refine A1_l ?_ | refine Mk_l ?_ | refine Kz_l ?_ | refine W_l ?_ | refine C_d (c0) ?_ | refine SA_d ?_ | refine V_d ?_ | refine L_d ?_ | refine Q_d ?_ | refine X_d ?_ | refine Xs_d ?_ | refine K_d ?_ | refine Ka_d ?_ | refine Lk_d ?_ | refine Up_d ?_ | refine A_d ?_ | refine A0_d ?_ | refine St_d ?_ | refine LU_d ?_ | refine Xw_d ?_ | refine Le_d ?_ | refine Se_d ?_ | refine M_d ?_ | refine Mk_d ?_ | refine N_d ?_ | refine Kz_d ?_ | refine W_d ?_ | fail)
    all_goals exact ⟨rfl, rfl⟩
  | false =>
    rw [b1, Bool.false_or] at h
    refine Spec.body (C := cx [] 115) fits (fn := Try.f8) Try.func8 rfl (by decide) (by decide) (gI ?_)
    repeat' (first | ((first | refine C_r ?_ | refine C0_r ?_ | refine O_r ?_ | refine R_r ?_); (conv => whnf); first | (refine ⟨fun hb => ?_, fun hb => ?_⟩ <;> try exact no_way) | refine A_o ?_ | refine B_o ?_ | refine C_o ?_ | refine R_o ?_ | refine fR ?_ | refine fRk ?_ | refine F_o ?_) | refine C_l (c0) ?_ | refine SA_l ?_ | refine V_l ?_ | refine L_l ?_ | refine Q_l ?_ | refine X_l ?_ | refine Xa_l ?_ | refine Xs_l ?_ | refine K_l ?_ | refine Ka_l ?_ | refine Lk_l ?_ | refine Up_l ?_ | refine Del_l ?_ | refine St_l ?_ | refine LU_l ?_ | refine Xw_l ?_ | refine Le_l ?_ | refine Se_l ?_ | refine M_l ?_ | refine A_l ?_ | refine A0_l ?_ | refine A1_l ?_ | refine Mk_l ?_ | refine Kz_l ?_ | refine W_l ?_ | refine C_d (c0) ?_ | refine SA_d ?_ | refine V_d ?_ | refine L_d ?_ | refine Q_d ?_ | refine X_d ?_ | refine Xs_d ?_ | refine K_d ?_ | refine Ka_d ?_ | refine Lk_d ?_ | refine Up_d ?_ | refine A_d ?_ | refine A0_d ?_ | refine St_d ?_ | refine LU_d ?_ | refine Xw_d ?_ | refine Le_d ?_ | refine Se_d ?_ | refine M_d ?_ | refine Mk_d ?_ | refine N_d ?_ | refine Kz_d ?_ | refine W_d ?_ | fail)
    all_goals exact ⟨rfl, rfl⟩
/-- the tokens of both, compared -/
theorem joinOk [GVals] (s t : ByteArray) (x y : List Tok) (n : Nat) (b1 : decide ((s.size : Int) > 500) = false) (b2 : decide ((t.size : Int) > 500) = false)
    (hx : x.length ≤ 500) (hy : y.length ≤ 500) (hlx : ∀ a ∈ x, lowP a.at_) (hly : ∀ a ∈ y, a.at_.1 < 2 ^ 50 ∧ a.at_.2 < 2 ^ 50) (hn : n < 2 ^ 50)
    (c1 : Comp Try.prog 14 [str s, int .i64 1] (splitV 1 (.ok x))) (c2 : Comp Try.prog 14 [str t, int .i64 1] (splitV 1 (.ok y)))
    (c3 : Comp Try.prog 14 [str (s ++ ⟨#[10]⟩ ++ t), int .i64 1] (splitV 1 (.ok (x ++ y.map (shT n))))) (k : Nat)
    (c4 : Comp Try.prog 17 [str s, int .i64 s.size] (.tup [.one (.d (.sc (.int .i64 n))), .one (.d (.sc (.int .i64 k)))])) : Comp Try.prog 8 [str s, str t] (Am.bool true) := by
  have c0 := alive9
  have z0 : fEq (F 0) 0 = true := by
    have := fEq_self 0 (by decide)
    rwa [F_zero] at this ⊢
  have q1 : (⟨#[10]⟩ : ByteArray).size = 1 := rfl
  have q2 : (s ++ (⟨#[10]⟩ : ByteArray)).size = s.size + 1 := by rw [ByteArray.size_append]; rfl
  have hs5 : s.size ≤ 500 := by rw [decide_eq_false_iff_not] at b1; omega
  have ht5 : t.size ≤ 500 := by rw [decide_eq_false_iff_not] at b2; omega
  have zz : (!((0 : Int) == 0 && ((0 : Int) == 0 && (fEq (F (0, 0).1) 0 && (fEq (F (0, 0).2) 0 && true))))) = false := by simp only [z0]; rfl
  have hz : (x ++ y.map (shT n)).length = x.length + y.length := by simp
  have zl : (!((((x ++ y.map (shT n)).map Tok.row).length : Int) == IntKind.i64.wrap (((x.map Tok.row).length : Int) + ((y.map Tok.row).length : Int)))) = false := by
    rw [wrap_ok (by omega) (by simp only [List.length_map]; omega), Bool.not_eq_false', beq_iff_eq]
    simp
  have hzx : ∀ (i : Nat) (a : Tok), x[i]? = some a → (x ++ y.map (shT n))[i]? = some a := by
    intro i a h
    rw [List.getElem?_append_left (List.getElem?_eq_some_iff.1 h).1]; exact h
  have hzy : ∀ (i : Nat) (a : Tok), y[i]? = some a → (x ++ y.map (shT n))[x.length + i]? = some (shT n a) := by
    intro i a h
    rw [List.getElem?_append_right (by omega), List.getElem?_map, show x.length + i - x.length = i from by omega, h]; rfl
  generalize x ++ y.map (shT n) = z at *
  unfold splitV faultV at c1 c2 c3
  refine Spec.body (C := cx [] 115) fits (fn := Try.f8) Try.func8 rfl (by decide) (by decide) (gI ?_)
  repeat' (first | ((first | refine C_r ?_ | refine C0_r ?_ | refine O_r ?_ | refine R_r ?_); (conv => whnf); first | (refine ⟨fun hb => ?_, fun hb => ?_⟩ <;> try exact no_way) | refine A_o ?_ | refine B_o ?_ | refine C_o ?_ | refine R_o ?_ | refine fR ?_ | refine fRk ?_ | refine F_o ?_) | refine C_l (c0) ?_ | refine C_l (c1) ?_ | refine C_l (c2) ?_ | refine C_l (c3) ?_ | refine C_l (c4) ?_ | refine SA_l ?_ | refine V_l ?_ | refine L_l ?_ | refine Q_l ?_ | refine X_l ?_ | refine Xa_l ?_ | refine Xs_l ?_ | refine K_l ?_ | refine Ka_l ?_ | refine Lk_l ?_ | refine Up_l ?_ | refine Del_l ?_ | refine St_l ?_ | refine LU_l ?_ | refine Xw_l ?_ | refine Le_l ?_ | refine Se_l ?_ | refine M_l ?_ | refine A_l ?_ | refine A0_l ?_ | refine A1_l ?_ | refine Mk_l ?_ | refine Kz_l ?_ | refine W_l ?_ | refine C_d (c0) ?_ | refine C_d (c1) ?_ | refine C_d (c2) ?_ | refine C_d (c3) ?_ | refine C_d (c4) ?_ | refine SA_d ?_ | refine V_d ?_ | refine L_d ?_ | refine Q_d ?_ | refine X_d ?_ | refine Xs_d ?_ | refine K_d ?_ | refine Ka_d ?_ | refine Lk_d ?_ | refine Up_d ?_ | refine A_d ?_ | refine A0_d ?_ | refine St_d ?_ | refine LU_d ?_ | refine Xw_d ?_ | refine Le_d ?_ | refine Se_d ?_ | refine M_d ?_ | refine Mk_d ?_ | refine N_d ?_ | refine Kz_d ?_ | refine W_d ?_ | fail)
  · exact ⟨rfl, rfl⟩
  clear c0 c1 c2 c3 c4
  refine wLoop [6, 8, 10, 12, 14] 3 (z.length + 1) ?_
  refine (fun key => key z.length 0 (by omega) rfl :
    (∀ (c : Nat) (j : Nat), j ≤ z.length → c = z.length - j →
    WR2 _ _ _ _ _ (c + 1) [(6, lst Tok.row x), (8, lst Tok.row y), (10, lst Tok.row z), (12, int .i64 n), (14, int .i64 j)] _) → _) ?_
  intro c
  induction c with
  | zero =>
    intro j h1 h2
    have q : decide ((j : Int) < ((z.map Tok.row).length : Int)) = false := by rw [decide_eq_false_iff_not, List.length_map]; omega
    refine wR (gI ?_)
    repeat' (first | ((first | refine C_r ?_ | refine C0_r ?_ | refine O_r ?_ | refine R_r ?_); (conv => whnf); first | (refine ⟨fun hb => ?_, fun hb => ?_⟩ <;> try exact no_way) | refine A_o ?_ | refine B_o ?_ | refine C_o ?_ | refine R_o ?_ | refine fR ?_ | refine fRk ?_ | refine F_o ?_) | refine SA_l ?_ | refine V_l ?_ | refine L_l ?_ | refine Q_l ?_ | refine X_l ?_ | refine Xa_l ?_ | refine Xs_l ?_ | refine K_l ?_ | refine Ka_l ?_ | refine Lk_l ?_ | refine Up_l ?_ | refine Del_l ?_ | refine St_l ?_ | refine LU_l ?_ | refine Xw_l ?_ | refine Le_l ?_ | refine Se_l ?_ | refine M_l ?_ | refine A_l ?_ | refine A0_l ?_ | refine A1_l ?_ | refine Mk_l ?_ | refine Kz_l ?_ | refine W_l ?_ | refine SA_d ?_ | refine V_d ?_ | refine L_d ?_ | refine Q_d ?_ | refine X_d ?_ | refine Xs_d ?_ | refine K_d ?_ | refine Ka_d ?_ | refine Lk_d ?_ | refine Up_d ?_ | refine A_d ?_ | refine A0_d ?_ | refine St_d ?_ | refine LU_d ?_ | refine Xw_d ?_ | refine Le_d ?_ | refine Se_d ?_ | refine M_d ?_ | refine Mk_d ?_ | refine N_d ?_ | refine Kz_d ?_ | refine W_d ?_ | fail)
    all_goals exact ⟨rfl, rfl⟩
  | succ c ih =>
    intro j h1 h2
    have q : decide ((j : Int) < ((z.map Tok.row).length : Int)) = true := by rw [decide_eq_true_eq, List.length_map]; omega
    have e7 : IntKind.i64.wrap ((j : Int) + 1) = ((j + 1 : Nat) : Int) := by rw [wrap_ok (by omega) (by omega)]; omega
    by_cases hj : j < x.length
    · have q2 : decide ((j : Int) < ((x.map Tok.row).length : Int)) = true := by rw [decide_eq_true_eq, List.length_map]; omega
      obtain ⟨a, ha⟩ : ∃ a, x[j]? = some a := ⟨_, List.getElem?_eq_getElem hj⟩
      have gz := hzx j a ha
      have hlow := hlx a (List.mem_of_getElem? ha)
      obtain ⟨ak, at_, af, ap⟩ := a
      have gx : x[((j : Int)).toNat]? = some ⟨ak, at_, af, ap⟩ := ha
      have gz : z[((j : Int)).toNat]? = some ⟨ak, at_, af, ap⟩ := gz
      have k1 := fEq_self ap.1 hlow.1
      have k2 := fEq_self ap.2 hlow.2
      have k3 : (at_ == at_) = true := by rw [ba_beq]; simp
      refine wR (gI ?_)
      repeat' (first | ((first | refine C_r ?_ | refine C0_r ?_ | refine O_r ?_ | refine R_r ?_); (conv => whnf); first | (refine ⟨fun hb => ?_, fun hb => ?_⟩ <;> try exact no_way) | refine A_o ?_ | refine B_o ?_ | refine C_o ?_ | refine R_o ?_ | refine fR ?_ | refine fRk ?_ | refine F_o ?_) | refine SA_l ?_ | refine V_l ?_ | refine L_l ?_ | refine Q_l ?_ | refine X_l ?_ | refine Xa_l ?_ | refine Xs_l ?_ | refine K_l ?_ | refine Ka_l ?_ | refine Lk_l ?_ | refine Up_l ?_ | refine Del_l ?_ | refine St_l ?_ | refine LU_l ?_ | refine Xw_l ?_ | refine Le_l ?_ | refine Se_l ?_ | refine M_l ?_ | refine A_l ?_ | refine A0_l ?_ | refine A1_l ?_ | refine Mk_l ?_ | refine Kz_l ?_ | refine W_l ?_ | refine SA_d ?_ | refine V_d ?_ | refine L_d ?_ | refine Q_d ?_ | refine X_d ?_ | refine Xs_d ?_ | refine K_d ?_ | refine Ka_d ?_ | refine Lk_d ?_ | refine Up_d ?_ | refine A_d ?_ | refine A0_d ?_ | refine St_d ?_ | refine LU_d ?_ | refine Xw_d ?_ | refine Le_d ?_ | refine Se_d ?_ | refine M_d ?_ | refine Mk_d ?_ | refine N_d ?_ | refine Kz_d ?_ | refine W_d ?_ | fail)
      · exfalso
        simp only [beq_self_eq_true, k1, k2, k3, Nat.add_zero, Bool.true_and, Bool.and_true, Bool.not_true] at hb
        cases hb
      · rw [e7]
        exact rE (ih (j + 1) (by omega) (by omega))
    · have q2 : decide ((j : Int) < ((x.map Tok.row).length : Int)) = false := by rw [decide_eq_false_iff_not, List.length_map]; omega
      obtain ⟨a, ha⟩ : ∃ a, y[j - x.length]? = some a := ⟨_, List.getElem?_eq_getElem (by omega)⟩
      have gz := hzy _ a ha
      rw [show x.length + (j - x.length) = j from by omega] at gz
      have hlow := hly a (List.mem_of_getElem? ha)
      obtain ⟨ak, at_, af, ap⟩ := a
      have e8 : IntKind.i64.wrap ((j : Int) - ((x.map Tok.row).length : Int)) = ((j - x.length : Nat) : Int) := by rw [List.length_map, wrap_okz (by omega) (by omega)]; omega
      have gy : y[(IntKind.i64.wrap ((j : Int) - ((x.map Tok.row).length : Int))).toNat]? = some ⟨ak, at_, af, ap⟩ := by rw [e8]; exact ha
      have gy0 : 0 ≤ IntKind.i64.wrap ((j : Int) - ((x.map Tok.row).length : Int)) := by rw [e8]; omega
      have gz : z[((j : Int)).toNat]? = some ⟨ak, at_, af, (ap.1 + n, ap.2)⟩ := gz
      have k1 := fEq_self (ap.1 + n) (by have := hlow.1; simp only at this; omega)
      have k2 := fEq_self ap.2 (by have := hlow.2; simp only at this; omega)
      have k3 : (at_ == at_) = true := by rw [ba_beq]; simp
      have s1 : ap.1 + n < 2 ^ 53 := by have := hlow.1; simp only at this; omega
      have s2 : ap.2 + 0 < 2 ^ 53 := by have := hlow.2; simp only at this; omega
      refine wR (gI ?_)
      repeat' (first | ((first | refine C_r ?_ | refine C0_r ?_ | refine O_r ?_ | refine R_r ?_); (conv => whnf); first | (refine ⟨fun hb => ?_, fun hb => ?_⟩ <;> try exact no_way) | refine A_o ?_ | refine B_o ?_ | refine C_o ?_ | refine R_o ?_ | refine fR ?_ | refine fRk ?_ | refine F_o ?_) | refine V_l ?_ (hrun := fun w => rv_cadd (a1 := ap.1) (a2 := ap.2) (b1 := n) (b2 := 0) rfl rfl rfl rfl rfl (by first | rfl | exact nearest_F _) F_zero.symm s1 s2 w) | refine SA_l ?_ | refine V_l ?_ | refine L_l ?_ | refine Q_l ?_ | refine X_l ?_ | refine Xa_l ?_ | refine Xs_l ?_ | refine K_l ?_ | refine Ka_l ?_ | refine Lk_l ?_ | refine Up_l ?_ | refine Del_l ?_ | refine St_l ?_ | refine LU_l ?_ | refine Xw_l ?_ | refine Le_l ?_ | refine Se_l ?_ | refine M_l ?_ | refine A_l ?_ | refine A0_l ?_ | refine A1_l ?_ | refine Mk_l ?_ | refine Kz_l ?_ | refine W_l ?_ | refine SA_d ?_ | refine V_d ?_ | refine L_d ?_ | refine Q_d ?_ | refine X_d ?_ | refine Xs_d ?_ | refine K_d ?_ | refine Ka_d ?_ | refine Lk_d ?_ | refine Up_d ?_ | refine A_d ?_ | refine A0_d ?_ | refine St_d ?_ | refine LU_d ?_ | refine Xw_d ?_ | refine Le_d ?_ | refine Se_d ?_ | refine M_d ?_ | refine Mk_d ?_ | refine N_d ?_ | refine Kz_d ?_ | refine W_d ?_ | fail)
      · exfalso
        simp only [beq_self_eq_true, k1, k2, k3, Nat.add_zero, Bool.true_and, Bool.and_true, Bool.not_true] at hb
        cases hb
      · rw [e7]
        exact rE (ih (j + 1) (by omega) (by omega))
theorem joinSize {s : ByteArray} (h : s.size ≤ 500) (x : List Tok) (hx : lexL 1 (s.size + 1) s.data.toList (1, 1) [] = .ok x) : x.length ≤ 500 ∧ (∀ a ∈ x, a.at_.1 ≤ 2000 ∧ a.at_.2 ≤ 2000) ∧ Lex 1 s.data.toList (1, 1) x := by
  have hsz : s.size = s.data.toList.length := rfl
  have h1 := lex_len 1 (s.size + 1) s.data.toList (1, 1) [] x hx
  have h2 := lex_low 1 2000 (s.size + 1) s.data.toList (1, 1) [] (by simp) (by simp only; omega) (by simp only; omega)
  rw [hx] at h2
  obtain ⟨ts, h3, h4⟩ := lex_of 1 (s.size + 1) s.data.toList (1, 1) [] x (by omega) hx
  rw [List.nil_append] at h3
  subst h3
  exact ⟨by simp only [List.length_nil] at h1; omega, h2, h4⟩
theorem tokenJoin [GVals] (s t : ByteArray) : Comp Try.prog 8 [str s, str t] (Am.bool true) := by
  cases hb : (decide ((s.size : Int) > 500) || decide ((t.size : Int) > 500)) with
  | true => exact joinBig s t hb
  | false =>
  rw [Bool.or_eq_false_iff] at hb
  obtain ⟨b1, b2⟩ := hb
  have hs5 : s.size ≤ 500 := by rw [decide_eq_false_iff_not] at b1; omega
  have ht5 : t.size ≤ 500 := by rw [decide_eq_false_iff_not] at b2; omega
  have c1 := splitLR s 1 (by omega)
  have c2 := splitLR t 1 (by omega)
  cases h1 : lexL 1 (s.size + 1) s.data.toList (1, 1) [] with
  | error p =>
    rw [h1] at c1
    cases h2 : lexL 1 (t.size + 1) t.data.toList (1, 1) [] with
    | error p2 =>
      rw [h2] at c2
      exact joinErr1 s t p p2 3 1 [] b1 b2 c1 c2
    | ok y =>
      rw [h2] at c2
      exact joinErr1 s t p (0, 0) 0 0 (y.map Tok.row) b1 b2 c1 c2
  | ok x =>
    rw [h1] at c1
    cases h2 : lexL 1 (t.size + 1) t.data.toList (1, 1) [] with
    | error p2 =>
      rw [h2] at c2
      exact joinErr2 s t p2 b1 b2 x c1 c2
    | ok y =>
      rw [h2] at c2
      obtain ⟨x1, x2, x3⟩ := joinSize hs5 x h1
      obtain ⟨y1, y2, y3⟩ := joinSize ht5 y h2
      have hw := walk_len (1, 1) s.data.toList
      have hsz : s.size = s.data.toList.length := rfl
      have hl := join_lex 1 s.data.toList t.data.toList x y x3 y3
      rw [← join_list] at hl
      have hsz3 : (s ++ (⟨#[10]⟩ : ByteArray) ++ t).size = s.size + 1 + t.size := by rw [ByteArray.size_append, ByteArray.size_append]; rfl
      have c3 := splitLR (s ++ (⟨#[10]⟩ : ByteArray) ++ t) 1 (by omega)
      rw [lex_to hl _ [] (by show (s ++ (⟨#[10]⟩ : ByteArray) ++ t).size < _; omega), List.nil_append] at c3
      have c4 := atRefR s s.size (by omega)
      have hat : atF s s.size = walkF (1, 1) s.data.toList := by
        unfold atF capF
        rw [if_neg (by omega), if_neg (by omega), Int.toNat_natCast, hsz, List.take_length]
      rw [hat] at c4
      exact joinOk s t x y _ b1 b2 x1 y1 (fun a ha => by have := x2 a ha; unfold lowP; omega) (fun a ha => by have := y2 a ha; omega) (by simp only at hw; omega) c1 c2 c3 _ c4
theorem tokenJoin_typed [GVals] {x0 x1 : List D} (y0 : Typed Try.prog 9 x0) (y1 : Typed Try.prog 9 x1) : Comp Try.prog 8 [argV (aggTy Try.prog 9) x0, argV (aggTy Try.prog 9) x1] (Am.bool true) := by
  have a0 : aggTy Try.prog 9 = false := by unfold aggTy; rw [Try.underlying9]
  obtain ⟨s, rfl, _⟩ := y0.str_inv Try.underlying9
  obtain ⟨t, rfl, _⟩ := y1.str_inv Try.underlying9
  rw [a0]
  exact tokenJoin s t
end Go.Proofs.Ytkjlmgfmedehiaa
