/- The law LabelChecks. -/
import Derived.Test.YtcplpllbinilmaaChkp
set_option linter.unusedVariables false
set_option linter.unusedSimpArgs false
namespace Go.Proofs.Ytcplpllbinilmaa
open Go Go.Am Go.Proofs
attribute [local irreducible] W WL DL WO RoundEnd
set_option maxRecDepth 10000
set_option maxHeartbeats 4000000
set_option linter.unusedVariables false
set_option linter.unusedSimpArgs false
theorem checksNo (l : List Sym) (hl : l.length < 2 ^ 45) (h : (decide (((l.map Sym.row).length : Int) > 400) || !rightF l) = true) : Comp Try.prog 4 [lst Sym.row l] (Am.bool true) := by
  have c0 := alive24
  cases b1 : decide (((l.map Sym.row).length : Int) > 400) with
  | true =>
    refine Spec.body (C := cx [] 83) fits (fn := Try.f4) Try.func4 rfl (by decide) (by decide) (gI ?_)
    repeat' (first | ((first | refine C_r ?_ | refine C0_r ?_ | refine O_r ?_ | refine R_r ?_); (conv => whnf); first | (refine ⟨fun hb => ?_, fun hb => ?_⟩ <;> try exact no_way) | refine A_o ?_ | refine B_o ?_ | refine C_o ?_ | refine R_o ?_ | refine fR ?_ | refine fRk ?_ | refine F_o ?_) | refine C_l (c0) ?_ | refine SA_l ?_ | refine V_l ?_ | refine L_l ?_ | refine Q_l ?_ | refine X_l ?_ | refine Xa_l ?_ | refine Xs_l ?_ | refine K_l ?_ | refine Ka_l ?_ | refine Lk_l ?_ | refine Up_l ?_ | refine Del_l ?_ | refine St_l ?_ | refine LU_l ?_ | refine Xw_l ?_ | refine Le_l ?_ | refine Se_l ?_ | refine M_l ?_ | refine A_l ?_ | refine A0_l ?_ | refine A1_l ?_ | refine Mk_l ?_ | refine Kz_l ?_ | refine W_l ?_ | fail)
    all_goals exact ⟨rfl, rfl⟩
  | false =>
    rw [b1, Bool.false_or, Bool.not_eq_true'] at h
    have hl4 : l.length ≤ 400 := by rw [decide_eq_false_iff_not, List.length_map] at b1; omega
    have c2 := rightR l (by omega)
    rw [h] at c2
    refine Spec.body (C := cx [] 83) fits (fn := Try.f4) Try.func4 rfl (by decide) (by decide) (gI ?_)
    repeat' (first | ((first | refine C_r ?_ | refine C0_r ?_ | refine O_r ?_ | refine R_r ?_); (conv => whnf); first | (refine ⟨fun hb => ?_, fun hb => ?_⟩ <;> try exact no_way) | refine A_o ?_ | refine B_o ?_ | refine C_o ?_ | refine R_o ?_ | refine fR ?_ | refine fRk ?_ | refine F_o ?_) | refine C_l (c0) ?_ | refine C_l (c2) ?_ | refine SA_l ?_ | refine V_l ?_ | refine L_l ?_ | refine Q_l ?_ | refine X_l ?_ | refine Xa_l ?_ | refine Xs_l ?_ | refine K_l ?_ | refine Ka_l ?_ | refine Lk_l ?_ | refine Up_l ?_ | refine Del_l ?_ | refine St_l ?_ | refine LU_l ?_ | refine Xw_l ?_ | refine Le_l ?_ | refine Se_l ?_ | refine M_l ?_ | refine A_l ?_ | refine A0_l ?_ | refine A1_l ?_ | refine Mk_l ?_ | refine Kz_l ?_ | refine W_l ?_ | fail)
    all_goals exact ⟨rfl, rfl⟩
/-- what is linked is let in -/
theorem link_checks {l : List Sym} (hl : l.length ≤ 1365) (hr : rightF l = true) (hk : ∀ x ∈ l, 0 ≤ x.k ∧ x.k < 2 ^ 32) (hb : ∀ x ∈ l, symB x = true) :
    Comp Try.prog 15 [lst Ins.row (outL l (linkM l) (linkFa l))] (.tup [.one (.d (.sc (.int .i64 (-1)))), .one (.d (.sc (.bool true)))]) := by
  have hf := fin_link hr
  have hlen := outL_len hf
  have hsc := sumC_le (linkFa l)
  have hfl := hf.len
  have hpos : 1 ≤ l.length := by
    cases l with
    | nil => unfold rightF at hr; simp at hr
    | cons x r => simp
  exact checkYes _ (by omega) (by omega) (link_ok hf (by omega) fun x hx => symB_ok (hb x hx) (hk x hx))
theorem checksYes (l : List Sym) (hk : ∀ x ∈ l, 0 ≤ x.k ∧ x.k < 2 ^ 32) (b1 : decide (((l.map Sym.row).length : Int) > 400) = false) (hr : rightF l = true) : Comp Try.prog 4 [lst Sym.row l] (Am.bool true) := by
  have c0 := alive24
  have hl4 : l.length ≤ 400 := by rw [decide_eq_false_iff_not, List.length_map] at b1; omega
  have c2 := rightR l (by omega)
  rw [hr] at c2
  have c1 := linkYes l (by omega) hr
  have c3 := fun hb => link_checks (by omega) hr hk hb
  have c4 := num24 0
  generalize outL l (linkM l) (linkFa l) = out at *
  refine Spec.body (C := cx [] 83) fits (fn := Try.f4) Try.func4 rfl (by decide) (by decide) (gI ?_)
  repeat' (first | ((first | refine C_r ?_ | refine C0_r ?_ | refine O_r ?_ | refine R_r ?_); (conv => whnf); first | (refine ⟨fun hb => ?_, fun hb => ?_⟩ <;> try exact no_way) | refine A_o ?_ | refine B_o ?_ | refine C_o ?_ | refine R_o ?_ | refine fR ?_ | refine fRk ?_ | refine F_o ?_) | refine C_l (c0) ?_ | refine C_l (c2) ?_ | refine SA_l ?_ | refine V_l ?_ | refine L_l ?_ | refine Q_l ?_ | refine X_l ?_ | refine Xa_l ?_ | refine Xs_l ?_ | refine K_l ?_ | refine Ka_l ?_ | refine Lk_l ?_ | refine Up_l ?_ | refine Del_l ?_ | refine St_l ?_ | refine LU_l ?_ | refine Xw_l ?_ | refine Le_l ?_ | refine Se_l ?_ | refine M_l ?_ | refine A_l ?_ | refine A0_l ?_ | refine A1_l ?_ | refine Mk_l ?_ | refine Kz_l ?_ | refine W_l ?_ | refine C_d (c0) ?_ | refine C_d (c2) ?_ | refine SA_d ?_ | refine V_d ?_ | refine L_d ?_ | refine Q_d ?_ | refine X_d ?_ | refine Xs_d ?_ | refine K_d ?_ | refine Ka_d ?_ | refine Lk_d ?_ | refine Up_d ?_ | refine A_d ?_ | refine A0_d ?_ | refine St_d ?_ | refine LU_d ?_ | refine Xw_d ?_ | refine Le_d ?_ | refine Se_d ?_ | refine M_d ?_ | refine Mk_d ?_ | refine N_d ?_ | refine Kz_d ?_ | refine W_d ?_ | fail)
  clear c0 c2
  refine wLoop [0, 4] 0 (l.length + 1) ?_
  refine (fun key => key l [] rfl (by simp) :
    (∀ (rest done : List Sym), l = done ++ rest → (∀ x ∈ done, symB x = true) →
    WR2 _ _ _ _ _ (rest.length + 1) [(0, lst Sym.row l), (4, int .i64 done.length)] []) → _) ?_
  intro rest
  induction rest with
  | nil =>
    intro done g1 g2
    rw [List.append_nil] at g1
    subst g1
    have c3 := c3 g2
    have q : decide ((l.length : Int) < ((l.map Sym.row).length : Int)) = false := by rw [decide_eq_false_iff_not, List.length_map]; omega
    have q2 : ((-1 : Int) == -1) = true := by decide
    refine wR (gI ?_)
    repeat' (first | ((first | refine C_r ?_ | refine C0_r ?_ | refine O_r ?_ | refine R_r ?_); (conv => whnf); first | (refine ⟨fun hb => ?_, fun hb => ?_⟩ <;> try exact no_way) | refine A_o ?_ | refine B_o ?_ | refine C_o ?_ | refine R_o ?_ | refine fR ?_ | refine fRk ?_ | refine F_o ?_) | refine C_l (c1) ?_ | refine C_l (c3) ?_ | refine C_l (c4) ?_ | refine SA_l ?_ | refine V_l ?_ | refine L_l ?_ | refine Q_l ?_ | refine X_l ?_ | refine Xa_l ?_ | refine Xs_l ?_ | refine K_l ?_ | refine Ka_l ?_ | refine Lk_l ?_ | refine Up_l ?_ | refine Del_l ?_ | refine St_l ?_ | refine LU_l ?_ | refine Xw_l ?_ | refine Le_l ?_ | refine Se_l ?_ | refine M_l ?_ | refine A_l ?_ | refine A0_l ?_ | refine A1_l ?_ | refine Mk_l ?_ | refine Kz_l ?_ | refine W_l ?_ | refine C_d (c1) ?_ | refine C_d (c3) ?_ | refine C_d (c4) ?_ | refine SA_d ?_ | refine V_d ?_ | refine L_d ?_ | refine Q_d ?_ | refine X_d ?_ | refine Xs_d ?_ | refine K_d ?_ | refine Ka_d ?_ | refine Lk_d ?_ | refine Up_d ?_ | refine A_d ?_ | refine A0_d ?_ | refine St_d ?_ | refine LU_d ?_ | refine Xw_d ?_ | refine Le_d ?_ | refine Se_d ?_ | refine M_d ?_ | refine Mk_d ?_ | refine N_d ?_ | refine Kz_d ?_ | refine W_d ?_ | fail)
    all_goals first | exact ⟨rfl, rfl⟩ | trace_state
  | cons x rest ih =>
    intro done g1 g2
    have hx : l[done.length]? = some x := by rw [g1]; simp
    have hlen : l.length = done.length + (rest.length + 1) := by rw [g1]; simp
    have g := fun (h : symB x = true) => ih (done ++ [x]) (by rw [g1]; simp) (by
      intro y hy
      rcases List.mem_append.1 hy with hy | hy
      · exact g2 y hy
      · rw [List.mem_singleton] at hy; subst hy; exact h)
    have q : decide ((done.length : Int) < ((l.map Sym.row).length : Int)) = true := by rw [decide_eq_true_eq, List.length_map]; omega
    have e7 : IntKind.i64.wrap ((done.length : Int) + 1) = ((done.length + 1 : Nat) : Int) := by rw [wrap_ok (by omega) (by omega)]; omega
    rw [show (done ++ [x]).length = done.length + 1 from by simp] at g
    clear ih c1 c3 c4 g2
    have hxx : l[((done.length : Int)).toNat]? = some x := hx
    clear hx g1 hk hr hlen hl4 b1
    refine wR (gI ?_)
    repeat' (first | ((first | refine C_r ?_ | refine C0_r ?_ | refine O_r ?_ | refine R_r ?_); (conv => whnf); first | (refine ⟨fun hb => ?_, fun hb => ?_⟩ <;> try exact no_way) | refine A_o ?_ | refine B_o ?_ | refine C_o ?_ | refine R_o ?_ | refine fR ?_ | refine fRk ?_ | refine F_o ?_) | refine SA_l ?_ | refine V_l ?_ | refine L_l ?_ | refine Q_l ?_ | refine X_l ?_ | refine Xa_l ?_ | refine Xs_l ?_ | refine K_l ?_ | refine Ka_l ?_ | refine Lk_l ?_ | refine Up_l ?_ | refine Del_l ?_ | refine St_l ?_ | refine LU_l ?_ | refine Xw_l ?_ | refine Le_l ?_ | refine Se_l ?_ | refine M_l ?_ | refine A_l ?_ | refine A0_l ?_ | refine A1_l ?_ | refine Mk_l ?_ | refine Kz_l ?_ | refine W_l ?_ | refine SA_d ?_ | refine V_d ?_ | refine L_d ?_ | refine Q_d ?_ | refine X_d ?_ | refine Xs_d ?_ | refine K_d ?_ | refine Ka_d ?_ | refine Lk_d ?_ | refine Up_d ?_ | refine A_d ?_ | refine A0_d ?_ | refine St_d ?_ | refine LU_d ?_ | refine Xw_d ?_ | refine Le_d ?_ | refine Se_d ?_ | refine M_d ?_ | refine Mk_d ?_ | refine N_d ?_ | refine Kz_d ?_ | refine W_d ?_ | fail)
    all_goals try exact ⟨rfl, rfl⟩
    all_goals (rw [e7]; refine rE (g ?_))
    all_goals (clear g e7 q hxx; simp only [symB, *, Bool.or_false, Bool.or_true, Bool.true_or, Bool.false_or, cond_true, cond_false, Bool.not_false, Bool.not_true, Bool.and_true, Bool.true_and])
theorem labelChecks_typed {x0 : List D} (y0 : Typed Try.prog 22 x0) : Comp Try.prog 4 [argV (aggTy Try.prog 22) x0] (Am.bool true) := by
  have a0 : aggTy Try.prog 22 = false := by unfold aggTy; rw [Try.underlying22]
  obtain ⟨l, rfl, hk, hl⟩ := syms_typed y0
  rw [a0]
  cases h : (decide (((l.map Sym.row).length : Int) > 400) || !rightF l) with
  | true => exact checksNo l hl h
  | false =>
    rw [Bool.or_eq_false_iff, Bool.not_eq_false'] at h
    exact checksYes l hk h.1 h.2
end Go.Proofs.Ytcplpllbinilmaa
