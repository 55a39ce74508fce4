/- A part of a proof: functions of the program, walked over the abstract machine. -/
import Derived.Test.YtceccgnpkelpkaaCons2
set_option linter.unusedVariables false
set_option linter.unusedSimpArgs false
namespace Go.Proofs.Ytceccgnpkelpkaa
open Go Go.Am Go.Proofs
attribute [local irreducible] W WL DL WO RoundEnd
set_option maxRecDepth 10000
set_option maxHeartbeats 4000000
def learnF : KM → List Def → KM
  | m, [] => m
  | m, d :: r => match fk d.name m 0 with
    | some _ => learnF m r
    | none => learnF (m ++ [(d.name, cofF m d.expr)]) r
theorem trimM {n : Nat} {e : Env} {σ : St} (h1 : (e.all fun p => p.2.under (alive (σ.take n))) = true) (h2 : ((σ.take n).all fun o => o.under (alive (σ.take n))) = true) : trims n e σ = true := by
  rw [trims, h1, h2]; rfl
theorem underM {E : List (Value × Am.FV)} (h : ∀ L, (E.all fun x => x.2.under L) = true) : ([Ob.map E].all fun o => o.under (alive [Ob.map E])) = true := by
  simp only [List.all_cons, List.all_nil, Ob.under, h _, Bool.and_true]
theorem learnR (l : List Def) (hl : l.length < 2 ^ 40) (hn : ∀ d ∈ l, d.expr.nok) : Am.Spec Try.prog 64 [lst Def.row l] [] (fun v s => v = .one (.map 0) ∧ s = [.map (ents encN (learnF [] l))]) := by
  generalize hfb : learnF [] l = fb
  refine Spec.body (C := cx [] 33) fits (fn := Try.f64) Try.func64 rfl (by decide) (by decide) (gI ?_)
  repeat' (first | ((first | refine C_r ?_ | refine C0_r ?_ | refine O_r ?_ | refine R_r ?_); (conv => whnf); first | (refine ⟨fun hb => ?_, fun hb => ?_⟩ <;> try exact no_way) | refine A_o ?_ | refine B_o ?_ | refine C_o ?_ | refine R_o ?_ | refine fR ?_ | refine fRk ?_ | refine F_o ?_) | refine SA_l ?_ | refine L_l ?_ | refine Q_l ?_ | refine X_l ?_ | refine Xa_l ?_ | refine Xs_l ?_ | refine K_l ?_ | refine Ka_l ?_ | refine Lk_l ?_ | refine Up_l ?_ | refine Del_l ?_ | refine St_l ?_ | refine LU_l ?_ | refine Xw_l ?_ | refine Le_l ?_ | refine Se_l ?_ | refine M_l ?_ | refine A_l ?_ | refine A0_l ?_ | refine A1_l ?_ | refine Mk_l ?_ | refine V_l ?_ | refine Kz_l ?_ | refine W_l ?_ | refine SA_d ?_ | refine L_d ?_ | refine Q_d ?_ | refine X_d ?_ | refine Xs_d ?_ | refine K_d ?_ | refine Ka_d ?_ | refine Lk_d ?_ | refine Up_d ?_ | refine A_d ?_ | refine A0_d ?_ | refine St_d ?_ | refine LU_d ?_ | refine Xw_d ?_ | refine Le_d ?_ | refine Se_d ?_ | refine M_d ?_ | refine N_d ?_ | refine V_d ?_ | refine Kz_d ?_ | refine W_d ?_ | fail)
  refine wLoop [3, 9, 10, 11] 1 (l.length + 1) ?_
  refine (fun key => key l [] _ [] rfl rfl hfb.symm :
    (∀ (rest done : List Def) (j : Int) (m : KM), l = done ++ rest → j = done.length → fb = learnF m rest →
    WR2 _ _ _ _ _ (rest.length + 1) [(3, .one (.map 0)), (9, lst Def.row l), (10, int .i64 (l.map Def.row).length), (11, int .i64 j)] [.map (ents encN m)]) → _) ?_
  intro rest
  induction rest with
  | nil =>
    intro done j m h1 hj hr
    have hlen : l.length = done.length := by rw [h1]; simp
    have hr : fb = m := hr
    subst hr
    refine wR (gI ?_)
    repeat' (first | refine fR' ?_ | ((first | refine C_r ?_ | refine C0_r ?_ | refine O_r ?_ | refine R_r ?_); (conv => whnf); first | (refine ⟨fun hb => ?_, fun hb => ?_⟩ <;> try exact no_way) | refine A_o ?_ | refine B_o ?_ | refine C_o ?_ | refine R_o ?_ | refine fR ?_ | refine fRk ?_ | refine F_o ?_) | refine SA_l ?_ | refine L_l ?_ | refine Q_l ?_ | refine X_l ?_ | refine Xa_l ?_ | refine Xs_l ?_ | refine K_l ?_ | refine Ka_l ?_ | refine Lk_l ?_ | refine Up_l ?_ | refine Del_l ?_ | refine St_l ?_ | refine LU_l ?_ | refine Xw_l ?_ | refine Le_l ?_ | refine Se_l ?_ | refine M_l ?_ | refine A_l ?_ | refine A0_l ?_ | refine A1_l ?_ | refine Mk_l ?_ | refine V_l ?_ | refine Kz_l ?_ | refine W_l ?_ | refine SA_d ?_ | refine L_d ?_ | refine Q_d ?_ | refine X_d ?_ | refine Xs_d ?_ | refine K_d ?_ | refine Ka_d ?_ | refine Lk_d ?_ | refine Up_d ?_ | refine A_d ?_ | refine A0_d ?_ | refine St_d ?_ | refine LU_d ?_ | refine Xw_d ?_ | refine Le_d ?_ | refine Se_d ?_ | refine M_d ?_ | refine N_d ?_ | refine V_d ?_ | refine Kz_d ?_ | refine W_d ?_ | fail)
    exact ⟨rfl, rfl⟩
  | cons x rest ih =>
    intro done j m h1 hj hr
    have hlen : l.length = done.length + (rest.length + 1) := by rw [h1]; simp
    have gx := at_mid (f := Def.row) h1 hj
    have hc := cofR0 m x.expr (hn x (by rw [h1]; simp))
    have hj1 : IntKind.wrap .i64 (j + 1) = ((done ++ [x]).length : Int) := by rw [wrap_ok (by omega) (by omega)]; simp [hj]
    have hl1 : l = (done ++ [x]) ++ rest := by rw [h1]; simp
    rw [learnF] at hr
    rcases hk : fk x.name m 0 with _ | ⟨i1, k1⟩
    · rw [hk] at hr
      have hk2 : findKey (.string x.name) (ents encN m) 0 = some none := by rw [findKey_ents, hk]; rfl
      generalize cofF m x.expr = q at hc hr
      obtain ⟨q1, q2⟩ := q
      obtain ⟨xn, ⟨xk, xo, xm, xu, xl⟩⟩ := x
      have g := ih _ _ (m ++ [(xn, (q1, q2))]) hl1 hj1 hr
      rw [ents_append] at g
      refine wR (gI ?_)
      repeat' (first | ((first | refine C_r ?_ | refine C0_r ?_ | refine O_r ?_ | refine R_r ?_); (conv => whnf); first | (refine ⟨fun hb => ?_, fun hb => ?_⟩ <;> try exact no_way) | refine A_o ?_ | refine B_o ?_ | refine C_o ?_ | refine R_o ?_ | refine fR ?_ | refine fRk ?_ | refine F_o ?_) | refine SA_l ?_ | refine L_l ?_ | refine Q_l ?_ | refine X_l ?_ | refine Xa_l ?_ | refine Xs_l ?_ | refine K_l ?_ | refine Ka_l ?_ | refine Lk_l ?_ | refine Up_l ?_ | refine Del_l ?_ | refine St_l ?_ | refine LU_l ?_ | refine Xw_l ?_ | refine Le_l ?_ | refine Se_l ?_ | refine M_l ?_ | refine A_l ?_ | refine A0_l ?_ | refine A1_l ?_ | refine Mk_l ?_ | refine V_l ?_ | refine Kz_l ?_ | refine W_l ?_ | refine fun k => DL.crp [0] [Ob.map (ents encN m)] _ _ hc (oD ?_ _) (underN0 m) (underR0 m) | refine SA_d ?_ | refine L_d ?_ | refine Q_d ?_ | refine X_d ?_ | refine Xs_d ?_ | refine K_d ?_ | refine Ka_d ?_ | refine Lk_d ?_ | refine Up_d ?_ | refine A_d ?_ | refine A0_d ?_ | refine St_d ?_ | refine LU_d ?_ | refine Xw_d ?_ | refine Le_d ?_ | refine Se_d ?_ | refine M_d ?_ | refine N_d ?_ | refine V_d ?_ | refine Kz_d ?_ | refine W_d ?_ | fail)
      all_goals exact rE g (ht := trimM rfl (underM (by intro L; simp only [mapSet, List.all_append, pureN, List.all_cons, List.all_nil]; rfl)))
    · rw [hk] at hr
      obtain ⟨k11, k12⟩ := k1
      have hk2 : findKey (.string x.name) (ents encN m) 0 = some (some (i1, encN (k11, k12))) := by rw [findKey_ents, hk]; rfl
      obtain ⟨xn, ⟨xk, xo, xm, xu, xl⟩⟩ := x
      have g := ih _ _ m hl1 hj1 hr
      refine wR (gI ?_)
      repeat' (first | ((first | refine C_r ?_ | refine C0_r ?_ | refine O_r ?_ | refine R_r ?_); (conv => whnf); first | (refine ⟨fun hb => ?_, fun hb => ?_⟩ <;> try exact no_way) | refine A_o ?_ | refine B_o ?_ | refine C_o ?_ | refine R_o ?_ | refine fR ?_ | refine fRk ?_ | refine F_o ?_) | refine SA_l ?_ | refine L_l ?_ | refine Q_l ?_ | refine X_l ?_ | refine Xa_l ?_ | refine Xs_l ?_ | refine K_l ?_ | refine Ka_l ?_ | refine Lk_l ?_ | refine Up_l ?_ | refine Del_l ?_ | refine St_l ?_ | refine LU_l ?_ | refine Xw_l ?_ | refine Le_l ?_ | refine Se_l ?_ | refine M_l ?_ | refine A_l ?_ | refine A0_l ?_ | refine A1_l ?_ | refine Mk_l ?_ | refine V_l ?_ | refine Kz_l ?_ | refine W_l ?_ | refine SA_d ?_ | refine L_d ?_ | refine Q_d ?_ | refine X_d ?_ | refine Xs_d ?_ | refine K_d ?_ | refine Ka_d ?_ | refine Lk_d ?_ | refine Up_d ?_ | refine A_d ?_ | refine A0_d ?_ | refine St_d ?_ | refine LU_d ?_ | refine Xw_d ?_ | refine Le_d ?_ | refine Se_d ?_ | refine M_d ?_ | refine N_d ?_ | refine V_d ?_ | refine Kz_d ?_ | refine W_d ?_ | fail)
      all_goals exact rE g (ht := trimM rfl (underM (pureN m)))
theorem valueR (l : List Def) (e : Ex) (hl : l.length < 2 ^ 40) (hn : ∀ d ∈ l, d.expr.nok) (he : e.nok) : Comp Try.prog 45 [lst Def.row l, .agg (e.row.map .d)] (.tup [.one (.d (.sc (.int .u64 (cofF (learnF [] l) e).1))), .one (.d (.sc (.int .i64 (cofF (learnF [] l) e).2)))]) := by
  have c1 := Spec.dead 1 (learnR l hl hn) rfl (by rintro _ _ ⟨_, rfl⟩; simp)
  have c2 := cofR0 (learnF [] l) e he
  generalize learnF [] l = m at *
  generalize cofF m e = q at *
  obtain ⟨q1, q2⟩ := q
  obtain ⟨xk, xo, xm, xu, xl⟩ := e
  refine Spec.body (C := cx [] 15) fits (fn := Try.f45) Try.func45 rfl (by decide) (by decide) (gI ?_)
  refine gRoom ?_
  repeat' (first | ((first | refine C_r ?_ | refine C0_r ?_ | refine O_r ?_ | refine R_r ?_); (conv => whnf); first | (refine ⟨fun hb => ?_, fun hb => ?_⟩ <;> try exact no_way) | refine A_o ?_ | refine B_o ?_ | refine C_o ?_ | refine R_o ?_ | refine fR ?_ | refine fRk ?_ | refine F_o ?_) | refine SA_l ?_ | refine L_l ?_ | refine Q_l ?_ | refine X_l ?_ | refine Xa_l ?_ | refine Xs_l ?_ | refine K_l ?_ | refine Ka_l ?_ | refine Lk_l ?_ | refine Up_l ?_ | refine Del_l ?_ | refine St_l ?_ | refine LU_l ?_ | refine Xw_l ?_ | refine Le_l ?_ | refine Se_l ?_ | refine M_l ?_ | refine A_l ?_ | refine A0_l ?_ | refine A1_l ?_ | refine Mk_l ?_ | refine V_l ?_ | refine Kz_l ?_ | refine W_l ?_ | refine fun k => DL.crp [0] [Ob.dead] _ _ c1 (oD ?_ _) rfl (underR0 m) | refine fun k => DL.crp [0] [Ob.map (ents encN m)] _ _ c2 (oD ?_ _) (underN0 m) (underR0 m) | refine SA_d ?_ | refine L_d ?_ | refine Q_d ?_ | refine X_d ?_ | refine Xs_d ?_ | refine K_d ?_ | refine Ka_d ?_ | refine Lk_d ?_ | refine Up_d ?_ | refine A_d ?_ | refine A0_d ?_ | refine St_d ?_ | refine LU_d ?_ | refine Xw_d ?_ | refine Le_d ?_ | refine Se_d ?_ | refine M_d ?_ | refine N_d ?_ | refine V_d ?_ | refine Kz_d ?_ | refine W_d ?_ | fail)
  all_goals exact ⟨rfl, rfl⟩
end Go.Proofs.Ytceccgnpkelpkaa
