/- A part of a proof: functions of the program, walked over the abstract machine. -/
import Derived.Test.YtceccgnpkelpkaaCons1
set_option linter.unusedVariables false
set_option linter.unusedSimpArgs false
namespace Go.Proofs.Ytceccgnpkelpkaa
open Go Go.Am Go.Proofs
attribute [local irreducible] W WL DL WO RoundEnd
set_option maxRecDepth 10000
set_option maxHeartbeats 4000000
def u64row (x : Int) : List D := [.sc (.int .u64 x)]
/-- what all defines stand for -/
def tableF : KM → List Int → Nat → List Def → (List Int × Int) × Int
  | _, out, _, [] => ((out, -1), 0)
  | m, out, j, d :: r => match fk d.name m 0 with
    | some _ => (([], (j : Int)), 8)
    | none => if (cofF m d.expr).2 = 0 then tableF (m ++ [(d.name, cofF m d.expr)]) (out ++ [(cofF m d.expr).1]) (j + 1) r else (([], (j : Int)), (cofF m d.expr).2)
theorem underT (m : KM) (ep : Nat) (rows r2 : List (List D)) : ([Ob.arr ep true 6 rows, .map (ents encN m), .arr 0 false 1 r2].all fun o => o.under (alive [Ob.arr ep true 6 rows, .map (ents encN m), .arr 0 false 1 r2])) = true := by
  simp only [List.all_cons, List.all_nil, Ob.under, pureN m _, Bool.and_true]
theorem underE {E : List (Value × Am.FV)} (h : ∀ L, (E.all fun x => x.2.under L) = true) (ep : Nat) (rows r2 : List (List D)) : ([Ob.arr ep true 6 rows, .map E, .arr 0 false 1 r2].all fun o => o.under (alive [Ob.arr ep true 6 rows, .map E, .arr 0 false 1 r2])) = true := by
  simp only [List.all_cons, List.all_nil, Ob.under, h _, Bool.and_true]
theorem trimI {n : Nat} {e : Env} {σ : St} (h1 : (e.all fun p => p.2.under (alive (σ.take n))) = true) (h2 : ((σ.take n).all fun o => o.under (alive (σ.take n))) = true) : trims n e σ = true := by
  rw [trims, h1, h2]; rfl
theorem tableA (ep mm : Nat) (l : List Def) (hmm : mm = (l.map Def.row).length) (hl : l.length ≤ 1000) (hn : ∀ d ∈ l, d.expr.nok) : Am.Spec Try.prog 22 [.one (.arr 0 ep mm)] [.arr ep true 6 (l.map Def.row)]
    (fun v s => v = .tup [.one (.d (.list ((tableF [] [] 0 l).1.1.map u64row))), .one (.d (.sc (.int .i64 (tableF [] [] 0 l).1.2))), .one (.d (.sc (.int .i64 (tableF [] [] 0 l).2)))] ∧ s = [.arr ep true 6 (l.map Def.row)]) := by
  subst hmm
  generalize hfb : tableF [] [] 0 l = fb
  refine Spec.body (C := cx [(6, false)] 52) fits (fn := Try.f22) Try.func22 rfl (by decide) (by decide) (gI ?_)
  repeat' (first | ((first | refine C_r ?_ | refine C0_r ?_ | refine O_r ?_ | refine R_r ?_); (conv => whnf); first | (refine ⟨fun hb => ?_, fun hb => ?_⟩ <;> try exact no_way) | refine A_o ?_ | refine B_o ?_ | refine C_o ?_ | refine R_o ?_ | refine fR ?_ | refine fRk ?_ | refine F_o ?_) | refine SA_l ?_ | refine L_l ?_ | refine Q_l ?_ | refine X_l ?_ | refine Xa_l ?_ | refine Xs_l ?_ | refine K_l ?_ | refine Ka_l ?_ | refine Lk_l ?_ | refine Up_l ?_ | refine Del_l ?_ | refine St_l ?_ | refine LU_l ?_ | refine Xw_l ?_ | refine Le_l ?_ | refine Se_l ?_ | refine M_l ?_ | refine A_l ?_ | refine A0_l ?_ | refine A1_l ?_ | refine Mk_l ?_ | refine V_l ?_ | refine Kz_l ?_ | refine W_l ?_ | refine SA_d ?_ | refine L_d ?_ | refine Q_d ?_ | refine X_d ?_ | refine Xs_d ?_ | refine K_d ?_ | refine Ka_d ?_ | refine Lk_d ?_ | refine Up_d ?_ | refine A_d ?_ | refine A0_d ?_ | refine St_d ?_ | refine LU_d ?_ | refine Xw_d ?_ | refine Le_d ?_ | refine Se_d ?_ | refine M_d ?_ | refine N_d ?_ | refine V_d ?_ | refine Kz_d ?_ | refine W_d ?_ | fail)
  refine wLoop [5, 6, 13, 14, 15] 3 (l.length + 1) ?_
  refine (fun key => key l [] 0 [] [] rfl rfl hfb.symm (Nat.le_refl _) :
    (∀ (rest done : List Def) (j : Nat) (m : KM) (out : List Int), l = done ++ rest → j = done.length → fb = tableF m out j rest → out.length ≤ j →
    WR2 _ _ _ _ _ (rest.length + 1) [(5, .one (.map 1)), (6, .one (.arr 2 0 (out.map u64row).length)), (13, .one (.arr 0 ep (l.map Def.row).length)), (14, int .i64 (l.map Def.row).length), (15, int .i64 j)]
      [.arr ep true 6 (l.map Def.row), .map (ents encN m), .arr 0 false 1 (out.map u64row)]) → _) ?_
  intro rest
  induction rest with
  | nil =>
    intro done j m out h1 hj hr ho
    have hlen : l.length = done.length := by rw [h1]; simp
    refine wR (gI ?_)
    repeat' (first | ((first | refine C_r ?_ | refine C0_r ?_ | refine O_r ?_ | refine R_r ?_); (conv => whnf); first | (refine ⟨fun hb => ?_, fun hb => ?_⟩ <;> try exact no_way) | refine A_o ?_ | refine B_o ?_ | refine C_o ?_ | refine R_o ?_ | refine fR ?_ | refine fRk ?_ | refine F_o ?_) | refine SA_l ?_ | refine L_l ?_ | refine Q_l ?_ | refine X_l ?_ | refine Xa_l ?_ | refine Xs_l ?_ | refine K_l ?_ | refine Ka_l ?_ | refine Lk_l ?_ | refine Up_l ?_ | refine Del_l ?_ | refine St_l ?_ | refine LU_l ?_ | refine Xw_l ?_ | refine Le_l ?_ | refine Se_l ?_ | refine M_l ?_ | refine A_l ?_ | refine A0_l ?_ | refine A1_l ?_ | refine Mk_l ?_ | refine V_l ?_ | refine Kz_l ?_ | refine W_l ?_ | refine SA_d ?_ | refine L_d ?_ | refine Q_d ?_ | refine X_d ?_ | refine Xs_d ?_ | refine K_d ?_ | refine Ka_d ?_ | refine Lk_d ?_ | refine Up_d ?_ | refine A_d ?_ | refine A0_d ?_ | refine St_d ?_ | refine LU_d ?_ | refine Xw_d ?_ | refine Le_d ?_ | refine Se_d ?_ | refine M_d ?_ | refine N_d ?_ | refine V_d ?_ | refine Kz_d ?_ | refine W_d ?_ | fail)
    exact ⟨by rw [hr]; rfl, rfl⟩
  | cons x rest ih =>
    intro done j m out h1 hj hr ho
    have hlen : l.length = done.length + (rest.length + 1) := by rw [h1]; simp
    have hjx : l[((j : Nat) : Int).toNat]? = some x := by rw [h1, hj]; simp
    have hjy : l[j]? = some x := by rw [h1, hj]; simp
    have g1 := at_of (f := Def.row) hjx
    have g2 := at_of (f := Def.row) hjy
    have hc := cofR1 ep (l.map Def.row) m x.expr (hn x (by rw [h1]; simp))
    rw [tableF] at hr
    rcases hk : fk x.name m 0 with _ | ⟨i1, k1⟩
    · rw [hk] at hr
      have hk2 : findKey (.string x.name) (ents encN m) 0 = some none := by rw [findKey_ents, hk]; rfl
      generalize cofF m x.expr = q at hc hr
      obtain ⟨q1, q2⟩ := q
      obtain ⟨xn, ⟨xk, xo, xm, xu, xl⟩⟩ := x
      refine wR (gI ?_)
      repeat' (first | ((first | refine C_r ?_ | refine C0_r ?_ | refine O_r ?_ | refine R_r ?_); (conv => whnf); first | (refine ⟨fun hb => ?_, fun hb => ?_⟩ <;> try exact no_way) | refine A_o ?_ | refine B_o ?_ | refine C_o ?_ | refine R_o ?_ | refine fR ?_ | refine fRk ?_ | refine F_o ?_) | refine fun k => WL.crp [0, 1] [.arr ep true 6 (l.map Def.row), .map (ents encN m)] _ _ hc (oW ?_ _) (underN1 _ _ _) (underR1 _ _ _) | refine SA_l ?_ | refine L_l ?_ | refine Q_l ?_ | refine X_l ?_ | refine Xa_l ?_ | refine Xs_l ?_ | refine K_l ?_ | refine Ka_l ?_ | refine Lk_l ?_ | refine Up_l ?_ | refine Del_l ?_ | refine St_l ?_ | refine LU_l ?_ | refine Xw_l ?_ | refine Le_l ?_ | refine Se_l ?_ | refine M_l ?_ | refine A_l ?_ | refine A0_l ?_ | refine A1_l ?_ | refine Mk_l ?_ | refine V_l ?_ | refine Kz_l ?_ | refine W_l ?_ | refine SA_d ?_ | refine L_d ?_ | refine Q_d ?_ | refine X_d ?_ | refine Xs_d ?_ | refine K_d ?_ | refine Ka_d ?_ | refine Lk_d ?_ | refine Up_d ?_ | refine A_d ?_ | refine A0_d ?_ | refine St_d ?_ | refine LU_d ?_ | refine Xw_d ?_ | refine Le_d ?_ | refine Se_d ?_ | refine M_d ?_ | refine N_d ?_ | refine V_d ?_ | refine Kz_d ?_ | refine W_d ?_ | fail)
      · have hz : ¬ q2 = 0 := by simpa using hb
        have hr2 : fb = (([], (j : Int)), q2) := by rw [hr]; exact if_neg hz
        exact ⟨by rw [hr2]; rfl, rfl⟩
      · have hz : q2 = 0 := by simpa using hb
        have hr2 : fb = tableF (m ++ [(xn, (q1, q2))]) (out ++ [q1]) (j + 1) rest := by rw [hr]; exact if_pos hz
        have g := ih (done ++ [⟨xn, Ex.mk xk xo xm xu xl⟩]) (j + 1) (m ++ [(xn, (q1, q2))]) (out ++ [q1]) (by rw [h1]; simp) (by rw [hj]; simp) hr2 (by simp; omega)
        have e1 : ((j + 1 : Nat) : Int) = IntKind.wrap .i64 ((j : Int) + 1) := by rw [wrap_ok (by omega) (by omega)]; rfl
        rw [ents_append, List.map_append, e1] at g
        exact rE g (ht := trimI rfl (underE (by intro L; simp only [mapSet, List.all_append, pureN, List.all_cons, List.all_nil]; rfl) _ _ _))
    · rw [hk] at hr
      have hk2 : findKey (.string x.name) (ents encN m) 0 = some (some (i1, encN k1)) := by rw [findKey_ents, hk]; rfl
      generalize cofF m x.expr = q at hc hr
      obtain ⟨q1, q2⟩ := q
      obtain ⟨k11, k12⟩ := k1
      obtain ⟨xn, ⟨xk, xo, xm, xu, xl⟩⟩ := x
      refine wR (gI ?_)
      repeat' (first | ((first | refine C_r ?_ | refine C0_r ?_ | refine O_r ?_ | refine R_r ?_); (conv => whnf); first | (refine ⟨fun hb => ?_, fun hb => ?_⟩ <;> try exact no_way) | refine A_o ?_ | refine B_o ?_ | refine C_o ?_ | refine R_o ?_ | refine fR ?_ | refine fRk ?_ | refine F_o ?_) | refine fun k => WL.crp [0, 1] [.arr ep true 6 (l.map Def.row), .map (ents encN m)] _ _ hc (oW ?_ _) (underN1 _ _ _) (underR1 _ _ _) | refine SA_l ?_ | refine L_l ?_ | refine Q_l ?_ | refine X_l ?_ | refine Xa_l ?_ | refine Xs_l ?_ | refine K_l ?_ | refine Ka_l ?_ | refine Lk_l ?_ | refine Up_l ?_ | refine Del_l ?_ | refine St_l ?_ | refine LU_l ?_ | refine Xw_l ?_ | refine Le_l ?_ | refine Se_l ?_ | refine M_l ?_ | refine A_l ?_ | refine A0_l ?_ | refine A1_l ?_ | refine Mk_l ?_ | refine V_l ?_ | refine Kz_l ?_ | refine W_l ?_ | refine SA_d ?_ | refine L_d ?_ | refine Q_d ?_ | refine X_d ?_ | refine Xs_d ?_ | refine K_d ?_ | refine Ka_d ?_ | refine Lk_d ?_ | refine Up_d ?_ | refine A_d ?_ | refine A0_d ?_ | refine St_d ?_ | refine LU_d ?_ | refine Xw_d ?_ | refine Le_d ?_ | refine Se_d ?_ | refine M_d ?_ | refine N_d ?_ | refine V_d ?_ | refine Kz_d ?_ | refine W_d ?_ | fail)
      have hr2 : fb = (([], (j : Int)), 8) := hr
      exact ⟨by rw [hr2]; rfl, rfl⟩
theorem tableNil : Comp Try.prog 22 [.one (.d (.list []))] (.tup [.one (.d (.list [])), .one (.d (.sc (.int .i64 (-1)))), .one (.d (.sc (.int .i64 0)))]) := by
  refine Spec.body (C := cx [(6, false)] 52) fits (fn := Try.f22) Try.func22 rfl (by decide) (by decide) (gI ?_)
  repeat' (first | ((first | refine C_r ?_ | refine C0_r ?_ | refine O_r ?_ | refine R_r ?_); (conv => whnf); first | (refine ⟨fun hb => ?_, fun hb => ?_⟩ <;> try exact no_way) | refine A_o ?_ | refine B_o ?_ | refine C_o ?_ | refine R_o ?_ | refine fR ?_ | refine fRk ?_ | refine F_o ?_) | refine SA_l ?_ | refine L_l ?_ | refine Q_l ?_ | refine X_l ?_ | refine Xa_l ?_ | refine Xs_l ?_ | refine K_l ?_ | refine Ka_l ?_ | refine Lk_l ?_ | refine Up_l ?_ | refine Del_l ?_ | refine St_l ?_ | refine LU_l ?_ | refine Xw_l ?_ | refine Le_l ?_ | refine Se_l ?_ | refine M_l ?_ | refine A_l ?_ | refine A0_l ?_ | refine A1_l ?_ | refine Mk_l ?_ | refine V_l ?_ | refine Kz_l ?_ | refine W_l ?_ | refine SA_d ?_ | refine L_d ?_ | refine Q_d ?_ | refine X_d ?_ | refine Xs_d ?_ | refine K_d ?_ | refine Ka_d ?_ | refine Lk_d ?_ | refine Up_d ?_ | refine A_d ?_ | refine A0_d ?_ | refine St_d ?_ | refine LU_d ?_ | refine Xw_d ?_ | refine Le_d ?_ | refine Se_d ?_ | refine M_d ?_ | refine N_d ?_ | refine V_d ?_ | refine Kz_d ?_ | refine W_d ?_ | fail)
  refine wLoop [6, 13, 14, 15] 2 1 ?_
  refine wR (gI ?_)
  repeat' (first | ((first | refine C_r ?_ | refine C0_r ?_ | refine O_r ?_ | refine R_r ?_); (conv => whnf); first | (refine ⟨fun hb => ?_, fun hb => ?_⟩ <;> try exact no_way) | refine A_o ?_ | refine B_o ?_ | refine C_o ?_ | refine R_o ?_ | refine fR ?_ | refine fRk ?_ | refine F_o ?_) | refine SA_l ?_ | refine L_l ?_ | refine Q_l ?_ | refine X_l ?_ | refine Xa_l ?_ | refine Xs_l ?_ | refine K_l ?_ | refine Ka_l ?_ | refine Lk_l ?_ | refine Up_l ?_ | refine Del_l ?_ | refine St_l ?_ | refine LU_l ?_ | refine Xw_l ?_ | refine Le_l ?_ | refine Se_l ?_ | refine M_l ?_ | refine A_l ?_ | refine A0_l ?_ | refine A1_l ?_ | refine Mk_l ?_ | refine V_l ?_ | refine Kz_l ?_ | refine W_l ?_ | refine SA_d ?_ | refine L_d ?_ | refine Q_d ?_ | refine X_d ?_ | refine Xs_d ?_ | refine K_d ?_ | refine Ka_d ?_ | refine Lk_d ?_ | refine Up_d ?_ | refine A_d ?_ | refine A0_d ?_ | refine St_d ?_ | refine LU_d ?_ | refine Xw_d ?_ | refine Le_d ?_ | refine Se_d ?_ | refine M_d ?_ | refine N_d ?_ | refine V_d ?_ | refine Kz_d ?_ | refine W_d ?_ | fail)
  exact ⟨rfl, rfl⟩
theorem numR14 (e : Int) : Comp Try.prog 23 [int .i64 e] (int .i64 e) := by
  refine Spec.body (C := cx [] 4) fits (fn := Try.f23) Try.func23 rfl (by decide) (by decide) (gI ?_)
  repeat' (first | ((first | refine C_r ?_ | refine C0_r ?_ | refine O_r ?_ | refine R_r ?_); (conv => whnf); first | (refine ⟨fun hb => ?_, fun hb => ?_⟩ <;> try exact no_way) | refine A_o ?_ | refine B_o ?_ | refine C_o ?_ | refine R_o ?_ | refine fR ?_ | refine fRk ?_ | refine F_o ?_) | refine SA_l ?_ | refine L_l ?_ | refine Q_l ?_ | refine X_l ?_ | refine Xa_l ?_ | refine Xs_l ?_ | refine K_l ?_ | refine Ka_l ?_ | refine Lk_l ?_ | refine Up_l ?_ | refine Del_l ?_ | refine St_l ?_ | refine LU_l ?_ | refine Xw_l ?_ | refine Le_l ?_ | refine Se_l ?_ | refine M_l ?_ | refine A_l ?_ | refine A0_l ?_ | refine A1_l ?_ | refine Mk_l ?_ | refine V_l ?_ | refine Kz_l ?_ | refine W_l ?_ | fail)
  exact ⟨rfl, rfl⟩
end Go.Proofs.Ytceccgnpkelpkaa
