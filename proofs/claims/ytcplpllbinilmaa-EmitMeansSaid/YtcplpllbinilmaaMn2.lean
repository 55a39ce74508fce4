/- Where steps and spans lead, by the document. -/
import Derived.Test.YtcplpllbinilmaaMn1
import Derived.Test.YtcplpllbinilmaaEm6
set_option linter.unusedVariables false
set_option linter.unusedSimpArgs false
namespace Go.Proofs.Ytcplpllbinilmaa
open Go Go.Am Go.Proofs
attribute [local irreducible] W WL DL WO RoundEnd
set_option maxRecDepth 10000
set_option maxHeartbeats 4000000
set_option linter.unusedVariables false
set_option linter.unusedSimpArgs false
theorem someR (d : Dat) (hd : d.ok) (l : List (List Half)) (hl : l.length < 2 ^ 60) (hs : ∀ c ∈ l, c.length < 2 ^ 60 ∧ ∀ h ∈ c, h.fit) : Comp Try.prog 58 [lst crow l, argsV d] (bool (someW d l)) := by
  generalize hfb : someW d l = fb
  have hz : (l.map crow).length = l.length := by simp
  have ch := fun h (hf : h.fit) => holdsR d hd h hf
  generalize hdr : holdsW d = p at *
  unfold someW at hfb
  rw [hdr] at hfb
  unfold argsV at *
  clear hdr hd
  obtain ⟨nr, ar, ip, a0, a1, a2, a3, a4, a5⟩ := d
  simp only at ch ⊢
  refine Spec.body (C := cx [] 36) fits (fn := Try.f58) Try.func58 rfl (by decide) (by decide) (gI ?_)
  repeat' (first | ((first | refine C_r ?_ | refine C0_r ?_ | refine O_r ?_ | refine R_r ?_); (conv => whnf); first | (refine ⟨fun hb => ?_, fun hb => ?_⟩ <;> try exact no_way) | refine A_o ?_ | refine B_o ?_ | refine C_o ?_ | refine R_o ?_ | refine fR ?_ | refine fRk ?_ | refine F_o ?_) | refine SA_l ?_ | refine V_l ?_ | refine L_l ?_ | refine Q_l ?_ | refine X_l ?_ | refine Xa_l ?_ | refine Xs_l ?_ | refine K_l ?_ | refine Ka_l ?_ | refine Lk_l ?_ | refine Up_l ?_ | refine Del_l ?_ | refine St_l ?_ | refine LU_l ?_ | refine Xw_l ?_ | refine Le_l ?_ | refine Se_l ?_ | refine M_l ?_ | refine A_l ?_ | refine A0_l ?_ | refine A1_l ?_ | refine Mk_l ?_ | refine Kz_l ?_ | refine W_l ?_ | refine SA_d ?_ | refine V_d ?_ | refine L_d ?_ | refine Q_d ?_ | refine X_d ?_ | refine Xs_d ?_ | refine K_d ?_ | refine Ka_d ?_ | refine Lk_d ?_ | refine Up_d ?_ | refine A_d ?_ | refine A0_d ?_ | refine St_d ?_ | refine LU_d ?_ | refine Xw_d ?_ | refine Le_d ?_ | refine Se_d ?_ | refine M_d ?_ | refine Mk_d ?_ | refine N_d ?_ | refine Kz_d ?_ | refine W_d ?_ | fail)
  refine wLoop [0, 3, 5] 1 (l.length + 1) ?_
  refine (fun key => key l [] rfl hfb :
    (∀ (rest done : List (List Half)), l = done ++ rest → (rest.any fun c => c.all p) = fb →
    WR2 _ _ _ _ _ (rest.length + 1) [(0, lst crow l), (3, .one (.ptr 0 0)), (5, int .i64 done.length)] [.var [.d (.sc (.int .u64 a0)), .d (.sc (.int .u64 a1)), .d (.sc (.int .u64 a2)), .d (.sc (.int .u64 a3)), .d (.sc (.int .u64 a4)), .d (.sc (.int .u64 a5))]]) → _) ?_
  clear hfb
  intro rest
  induction rest with
  | nil =>
    intro done g1 g2
    have hlen : l.length = done.length := by rw [g1]; simp
    have g2 : false = fb := g2
    subst g2
    have q : decide ((done.length : Int) < ((l.map crow).length : Int)) = false := by rw [decide_eq_false_iff_not, hz]; omega
    clear ch
    refine wR (gI ?_)
    repeat' (first | ((first | refine C_r ?_ | refine C0_r ?_ | refine O_r ?_ | refine R_r ?_); (conv => whnf); first | (refine ⟨fun hb => ?_, fun hb => ?_⟩ <;> try exact no_way) | refine A_o ?_ | refine B_o ?_ | refine C_o ?_ | refine R_o ?_ | refine fR ?_ | refine fRk ?_ | refine F_o ?_) | refine SA_l ?_ | refine V_l ?_ | refine L_l ?_ | refine Q_l ?_ | refine X_l ?_ | refine Xa_l ?_ | refine Xs_l ?_ | refine K_l ?_ | refine Ka_l ?_ | refine Lk_l ?_ | refine Up_l ?_ | refine Del_l ?_ | refine St_l ?_ | refine LU_l ?_ | refine Xw_l ?_ | refine Le_l ?_ | refine Se_l ?_ | refine M_l ?_ | refine A_l ?_ | refine A0_l ?_ | refine A1_l ?_ | refine Mk_l ?_ | refine Kz_l ?_ | refine W_l ?_ | refine SA_d ?_ | refine V_d ?_ | refine L_d ?_ | refine Q_d ?_ | refine X_d ?_ | refine Xs_d ?_ | refine K_d ?_ | refine Ka_d ?_ | refine Lk_d ?_ | refine Up_d ?_ | refine A_d ?_ | refine A0_d ?_ | refine St_d ?_ | refine LU_d ?_ | refine Xw_d ?_ | refine Le_d ?_ | refine Se_d ?_ | refine M_d ?_ | refine Mk_d ?_ | refine N_d ?_ | refine Kz_d ?_ | refine W_d ?_ | fail)
    all_goals first | exact ⟨rfl, rfl⟩ | trace_state
  | cons c rest ih =>
    intro done g1 g2
    have hx : l[done.length]? = some c := by rw [g1]; simp
    have hx : l[((done.length : Int)).toNat]? = some c := hx
    have hlen : l.length = done.length + (rest.length + 1) := by rw [g1]; simp
    have hcl := hs c (by rw [g1]; simp)
    have q : decide ((done.length : Int) < ((l.map crow).length : Int)) = true := by rw [decide_eq_true_eq, hz]; omega
    have e7 : IntKind.i64.wrap ((done.length : Int) + 1) = ((done.length + 1 : Nat) : Int) := by rw [wrap_ok (by omega) (by omega)]; omega
    rw [List.any_cons] at g2
    have g := fun h => ih (done ++ [c]) (by rw [g1]; simp) h
    rw [show (done ++ [c]).length = done.length + 1 from by simp] at g
    have hzc : (c.map Half.row).length = c.length := by simp
    clear ih hs
    refine wR (gI ?_)
    repeat' (first | ((first | refine C_r ?_ | refine C0_r ?_ | refine O_r ?_ | refine R_r ?_); (conv => whnf); first | (refine ⟨fun hb => ?_, fun hb => ?_⟩ <;> try exact no_way) | refine A_o ?_ | refine B_o ?_ | refine C_o ?_ | refine R_o ?_ | refine fR ?_ | refine fRk ?_ | refine F_o ?_) | refine SA_l ?_ | refine V_l ?_ | refine L_l ?_ | refine Q_l ?_ | refine X_l ?_ | refine Xa_l ?_ | refine Xs_l ?_ | refine K_l ?_ | refine Ka_l ?_ | refine Lk_l ?_ | refine Up_l ?_ | refine Del_l ?_ | refine St_l ?_ | refine LU_l ?_ | refine Xw_l ?_ | refine Le_l ?_ | refine Se_l ?_ | refine M_l ?_ | refine A_l ?_ | refine A0_l ?_ | refine A1_l ?_ | refine Mk_l ?_ | refine Kz_l ?_ | refine W_l ?_ | refine SA_d ?_ | refine V_d ?_ | refine L_d ?_ | refine Q_d ?_ | refine X_d ?_ | refine Xs_d ?_ | refine K_d ?_ | refine Ka_d ?_ | refine Lk_d ?_ | refine Up_d ?_ | refine A_d ?_ | refine A0_d ?_ | refine St_d ?_ | refine LU_d ?_ | refine Xw_d ?_ | refine Le_d ?_ | refine Se_d ?_ | refine M_d ?_ | refine Mk_d ?_ | refine N_d ?_ | refine Kz_d ?_ | refine W_d ?_ | fail)
    refine wLoop [0, 3, 5, 6, 7] 1 (c.length + 1) ?_
    refine (fun key => key c [] true rfl g2 :
      (∀ (rest2 done2 : List Half) (b : Bool), c = done2 ++ rest2 → ((b && rest2.all p) || rest.any fun c => c.all p) = fb →
      WR2 _ _ _ _ _ (rest2.length + 1) [(0, lst crow l), (3, .one (.ptr 0 0)), (5, int .i64 done.length), (6, bool b), (7, int .i64 done2.length)] [.var [.d (.sc (.int .u64 a0)), .d (.sc (.int .u64 a1)), .d (.sc (.int .u64 a2)), .d (.sc (.int .u64 a3)), .d (.sc (.int .u64 a4)), .d (.sc (.int .u64 a5))]]) → _) ?_
    clear g2 g1
    intro rest2
    induction rest2 with
    | nil =>
      intro done2 b k1 k2
      have hlen2 : c.length = done2.length := by rw [k1]; simp
      have q2 : decide ((done2.length : Int) < ((c.map Half.row).length : Int)) = false := by rw [decide_eq_false_iff_not, hzc]; omega
      rw [List.all_nil, Bool.and_true] at k2
      clear ch
      cases b with
      | true =>
        have k2 : true = fb := k2
        subst k2
        clear g
        refine wR (gI ?_)
        repeat' (first | ((first | refine C_r ?_ | refine C0_r ?_ | refine O_r ?_ | refine R_r ?_); (conv => whnf); first | (refine ⟨fun hb => ?_, fun hb => ?_⟩ <;> try exact no_way) | refine A_o ?_ | refine B_o ?_ | refine C_o ?_ | refine R_o ?_ | refine fR ?_ | refine fRk ?_ | refine F_o ?_) | refine SA_l ?_ | refine V_l ?_ | refine L_l ?_ | refine Q_l ?_ | refine X_l ?_ | refine Xa_l ?_ | refine Xs_l ?_ | refine K_l ?_ | refine Ka_l ?_ | refine Lk_l ?_ | refine Up_l ?_ | refine Del_l ?_ | refine St_l ?_ | refine LU_l ?_ | refine Xw_l ?_ | refine Le_l ?_ | refine Se_l ?_ | refine M_l ?_ | refine A_l ?_ | refine A0_l ?_ | refine A1_l ?_ | refine Mk_l ?_ | refine Kz_l ?_ | refine W_l ?_ | refine SA_d ?_ | refine V_d ?_ | refine L_d ?_ | refine Q_d ?_ | refine X_d ?_ | refine Xs_d ?_ | refine K_d ?_ | refine Ka_d ?_ | refine Lk_d ?_ | refine Up_d ?_ | refine A_d ?_ | refine A0_d ?_ | refine St_d ?_ | refine LU_d ?_ | refine Xw_d ?_ | refine Le_d ?_ | refine Se_d ?_ | refine M_d ?_ | refine Mk_d ?_ | refine N_d ?_ | refine Kz_d ?_ | refine W_d ?_ | fail)
        all_goals first | exact ⟨rfl, rfl⟩ | trace_state
      | false =>
        have g := g k2
        refine wR (gI ?_)
        repeat' (first | ((first | refine C_r ?_ | refine C0_r ?_ | refine O_r ?_ | refine R_r ?_); (conv => whnf); first | (refine ⟨fun hb => ?_, fun hb => ?_⟩ <;> try exact no_way) | refine A_o ?_ | refine B_o ?_ | refine C_o ?_ | refine R_o ?_ | refine fR ?_ | refine fRk ?_ | refine F_o ?_) | refine SA_l ?_ | refine V_l ?_ | refine L_l ?_ | refine Q_l ?_ | refine X_l ?_ | refine Xa_l ?_ | refine Xs_l ?_ | refine K_l ?_ | refine Ka_l ?_ | refine Lk_l ?_ | refine Up_l ?_ | refine Del_l ?_ | refine St_l ?_ | refine LU_l ?_ | refine Xw_l ?_ | refine Le_l ?_ | refine Se_l ?_ | refine M_l ?_ | refine A_l ?_ | refine A0_l ?_ | refine A1_l ?_ | refine Mk_l ?_ | refine Kz_l ?_ | refine W_l ?_ | refine SA_d ?_ | refine V_d ?_ | refine L_d ?_ | refine Q_d ?_ | refine X_d ?_ | refine Xs_d ?_ | refine K_d ?_ | refine Ka_d ?_ | refine Lk_d ?_ | refine Up_d ?_ | refine A_d ?_ | refine A0_d ?_ | refine St_d ?_ | refine LU_d ?_ | refine Xw_d ?_ | refine Le_d ?_ | refine Se_d ?_ | refine M_d ?_ | refine Mk_d ?_ | refine N_d ?_ | refine Kz_d ?_ | refine W_d ?_ | fail)
        all_goals first | (rw [e7]; exact rE g) | trace_state
    | cons h rest2 ih2 =>
      intro done2 b k1 k2
      have hx2 : c[done2.length]? = some h := by rw [k1]; simp
      have hx2 : c[((done2.length : Int)).toNat]? = some h := hx2
      have hlen2 : c.length = done2.length + (rest2.length + 1) := by rw [k1]; simp
      have q2 : decide ((done2.length : Int) < ((c.map Half.row).length : Int)) = true := by rw [decide_eq_true_eq, hzc]; omega
      have e8 : IntKind.i64.wrap ((done2.length : Int) + 1) = ((done2.length + 1 : Nat) : Int) := by rw [wrap_ok (by omega) (by omega)]; omega
      have c1 := ch h (hcl.2 h (by rw [k1]; simp))
      rw [List.all_cons] at k2
      have g3 := fun b hh => ih2 (done2 ++ [h]) b (by rw [k1]; simp) hh
      clear ih2
      cases b with
      | false =>
        have g3 := g3 false k2
        rw [show (done2 ++ [h]).length = done2.length + 1 from by simp] at g3
        clear g c1 ch k1
        refine wR (gI ?_)
        repeat' (first | ((first | refine C_r ?_ | refine C0_r ?_ | refine O_r ?_ | refine R_r ?_); (conv => whnf); first | (refine ⟨fun hb => ?_, fun hb => ?_⟩ <;> try exact no_way) | refine A_o ?_ | refine B_o ?_ | refine C_o ?_ | refine R_o ?_ | refine fR ?_ | refine fRk ?_ | refine F_o ?_) | refine SA_l ?_ | refine V_l ?_ | refine L_l ?_ | refine Q_l ?_ | refine X_l ?_ | refine Xa_l ?_ | refine Xs_l ?_ | refine K_l ?_ | refine Ka_l ?_ | refine Lk_l ?_ | refine Up_l ?_ | refine Del_l ?_ | refine St_l ?_ | refine LU_l ?_ | refine Xw_l ?_ | refine Le_l ?_ | refine Se_l ?_ | refine M_l ?_ | refine A_l ?_ | refine A0_l ?_ | refine A1_l ?_ | refine Mk_l ?_ | refine Kz_l ?_ | refine W_l ?_ | refine SA_d ?_ | refine V_d ?_ | refine L_d ?_ | refine Q_d ?_ | refine X_d ?_ | refine Xs_d ?_ | refine K_d ?_ | refine Ka_d ?_ | refine Lk_d ?_ | refine Up_d ?_ | refine A_d ?_ | refine A0_d ?_ | refine St_d ?_ | refine LU_d ?_ | refine Xw_d ?_ | refine Le_d ?_ | refine Se_d ?_ | refine M_d ?_ | refine Mk_d ?_ | refine N_d ?_ | refine Kz_d ?_ | refine W_d ?_ | fail)
        all_goals first | (rw [e8]; exact rE g3) | trace_state
      | true =>
        have g3 := g3 (p h) (by rw [← k2, Bool.true_and])
        rw [show (done2 ++ [h]).length = done2.length + 1 from by simp] at g3
        generalize p h = ph at *
        clear g ch k1
        refine wR (gI ?_)
        repeat' (first | ((first | refine C_r ?_ | refine C0_r ?_ | refine O_r ?_ | refine R_r ?_); (conv => whnf); first | (refine ⟨fun hb => ?_, fun hb => ?_⟩ <;> try exact no_way) | refine A_o ?_ | refine B_o ?_ | refine C_o ?_ | refine R_o ?_ | refine fR ?_ | refine fRk ?_ | refine F_o ?_) | refine C_l (c1) ?_ | refine SA_l ?_ | refine V_l ?_ | refine L_l ?_ | refine Q_l ?_ | refine X_l ?_ | refine Xa_l ?_ | refine Xs_l ?_ | refine K_l ?_ | refine Ka_l ?_ | refine Lk_l ?_ | refine Up_l ?_ | refine Del_l ?_ | refine St_l ?_ | refine LU_l ?_ | refine Xw_l ?_ | refine Le_l ?_ | refine Se_l ?_ | refine M_l ?_ | refine A_l ?_ | refine A0_l ?_ | refine A1_l ?_ | refine Mk_l ?_ | refine Kz_l ?_ | refine W_l ?_ | refine C_d (c1) ?_ | refine SA_d ?_ | refine V_d ?_ | refine L_d ?_ | refine Q_d ?_ | refine X_d ?_ | refine Xs_d ?_ | refine K_d ?_ | refine Ka_d ?_ | refine Lk_d ?_ | refine Up_d ?_ | refine A_d ?_ | refine A0_d ?_ | refine St_d ?_ | refine LU_d ?_ | refine Xw_d ?_ | refine Le_d ?_ | refine Se_d ?_ | refine M_d ?_ | refine Mk_d ?_ | refine N_d ?_ | refine Kz_d ?_ | refine W_d ?_ | fail)
        all_goals first | (rw [e8]; exact rE g3) | trace_state
end Go.Proofs.Ytcplpllbinilmaa
