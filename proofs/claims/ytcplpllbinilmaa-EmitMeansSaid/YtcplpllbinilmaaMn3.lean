/- Led and FindSpan. -/
import Derived.Test.YtcplpllbinilmaaMn2
set_option linter.unusedVariables false
set_option linter.unusedSimpArgs false
namespace Go.Proofs.Ytcplpllbinilmaa
open Go Go.Am Go.Proofs
attribute [local irreducible] W WL DL WO RoundEnd
set_option maxRecDepth 10000
set_option maxHeartbeats 4000000
set_option linter.unusedVariables false
set_option linter.unusedSimpArgs false
theorem ledR (d : Dat) (hd : d.ok) (l : List Stp) (hl : l.length < 2 ^ 60) (hs : ∀ s ∈ l, s.clauses.length < 2 ^ 60 ∧ ∀ c ∈ s.clauses, c.length < 2 ^ 60 ∧ ∀ h ∈ c, h.fit) (a : Act) : Comp Try.prog 45 [lst Stp.row l, .agg (a.row.map .d), argsV d] (.agg ((ledW d l a).row.map .d)) := by
  generalize hfb : ledW d l a = fb
  have hz : (l.map Stp.row).length = l.length := by simp
  have ch := fun l h1 h2 => someR d hd l h1 h2
  have hle : ∀ r : List Stp, ledW d r a = (r.find? fun s => someW d s.clauses).elim a Stp.act := by
    intro r
    induction r with
    | nil => rfl
    | cons s r ih =>
      rw [ledW, ih, List.find?_cons]
      cases someW d s.clauses <;> rfl
  rw [hle] at hfb
  clear hle
  generalize hdr : someW d = p at *
  unfold argsV at *
  clear hdr hd
  obtain ⟨nr, ar, ip, a0, a1, a2, a3, a4, a5⟩ := d
  obtain ⟨ka, da⟩ := a
  simp only at ch ⊢
  refine Spec.body (C := cx [] 27) fits (fn := Try.f45) Try.func45 rfl (by decide) (by decide) (gI ?_)
  repeat' (first | ((first | refine C_r ?_ | refine C0_r ?_ | refine O_r ?_ | refine R_r ?_); (conv => whnf); first | (refine ⟨fun hb => ?_, fun hb => ?_⟩ <;> try exact no_way) | refine A_o ?_ | refine B_o ?_ | refine C_o ?_ | refine R_o ?_ | refine fR ?_ | refine fRk ?_ | refine F_o ?_) | refine SA_l ?_ | refine V_l ?_ | refine L_l ?_ | refine Q_l ?_ | refine X_l ?_ | refine Xa_l ?_ | refine Xs_l ?_ | refine K_l ?_ | refine Ka_l ?_ | refine Lk_l ?_ | refine Up_l ?_ | refine Del_l ?_ | refine St_l ?_ | refine LU_l ?_ | refine Xw_l ?_ | refine Le_l ?_ | refine Se_l ?_ | refine M_l ?_ | refine A_l ?_ | refine A0_l ?_ | refine A1_l ?_ | refine Mk_l ?_ | refine Kz_l ?_ | refine W_l ?_ | refine SA_d ?_ | refine V_d ?_ | refine L_d ?_ | refine Q_d ?_ | refine X_d ?_ | refine Xs_d ?_ | refine K_d ?_ | refine Ka_d ?_ | refine Lk_d ?_ | refine Up_d ?_ | refine A_d ?_ | refine A0_d ?_ | refine St_d ?_ | refine LU_d ?_ | refine Xw_d ?_ | refine Le_d ?_ | refine Se_d ?_ | refine M_d ?_ | refine Mk_d ?_ | refine N_d ?_ | refine Kz_d ?_ | refine W_d ?_ | fail)
  refine wLoop [0, 4, 5, 6, 7] 3 (l.length + 1) ?_
  refine (fun key => key l [] rfl hfb :
    (∀ (rest done : List Stp), l = done ++ rest → ((rest.find? fun s => p s.clauses).elim ⟨ka, da⟩ Stp.act) = fb →
    WR2 _ _ _ _ _ (rest.length + 1) [(0, lst Stp.row l), (4, .one (.ptr 0 0)), (5, .one (.ptr 1 0)), (6, .one (.ptr 2 0)), (7, int .i64 done.length)] [.var [.d (.sc (.int .i64 ka)), .d (.sc (.int .i64 da))], .var [.d (.sc (.int .u64 a0)), .d (.sc (.int .u64 a1)), .d (.sc (.int .u64 a2)), .d (.sc (.int .u64 a3)), .d (.sc (.int .u64 a4)), .d (.sc (.int .u64 a5))], .var [.d (.sc (.int .i64 0)), .d (.sc (.int .i64 0))]]) → _) ?_
  clear hfb
  intro rest
  induction rest with
  | nil =>
    intro done g1 g2
    have hlen : l.length = done.length := by rw [g1]; simp
    have g2 : (⟨ka, da⟩ : Act) = fb := g2
    subst g2
    have q : decide ((done.length : Int) < ((l.map Stp.row).length : Int)) = false := by rw [decide_eq_false_iff_not, hz]; omega
    clear ch
    refine wR (gI ?_)
    repeat' (first | ((first | refine C_r ?_ | refine C0_r ?_ | refine O_r ?_ | refine R_r ?_); (conv => whnf); first | (refine ⟨fun hb => ?_, fun hb => ?_⟩ <;> try exact no_way) | refine A_o ?_ | refine B_o ?_ | refine C_o ?_ | refine R_o ?_ | refine fR ?_ | refine fRk ?_ | refine F_o ?_) | refine SA_l ?_ | refine V_l ?_ | refine L_l ?_ | refine Q_l ?_ | refine X_l ?_ | refine Xa_l ?_ | refine Xs_l ?_ | refine K_l ?_ | refine Ka_l ?_ | refine Lk_l ?_ | refine Up_l ?_ | refine Del_l ?_ | refine St_l ?_ | refine LU_l ?_ | refine Xw_l ?_ | refine Le_l ?_ | refine Se_l ?_ | refine M_l ?_ | refine A_l ?_ | refine A0_l ?_ | refine A1_l ?_ | refine Mk_l ?_ | refine Kz_l ?_ | refine W_l ?_ | refine SA_d ?_ | refine V_d ?_ | refine L_d ?_ | refine Q_d ?_ | refine X_d ?_ | refine Xs_d ?_ | refine K_d ?_ | refine Ka_d ?_ | refine Lk_d ?_ | refine Up_d ?_ | refine A_d ?_ | refine A0_d ?_ | refine St_d ?_ | refine LU_d ?_ | refine Xw_d ?_ | refine Le_d ?_ | refine Se_d ?_ | refine M_d ?_ | refine Mk_d ?_ | refine N_d ?_ | refine Kz_d ?_ | refine W_d ?_ | fail)
    all_goals first | exact ⟨rfl, rfl⟩ | trace_state
  | cons s rest ih =>
    intro done g1 g2
    have hx : l[done.length]? = some s := by rw [g1]; simp
    have hx : l[((done.length : Int)).toNat]? = some s := hx
    have hlen : l.length = done.length + (rest.length + 1) := by rw [g1]; simp
    have hsl := hs s (by rw [g1]; simp)
    have c1 := ch s.clauses hsl.1 hsl.2
    have q : decide ((done.length : Int) < ((l.map Stp.row).length : Int)) = true := by rw [decide_eq_true_eq, hz]; omega
    have e7 : IntKind.i64.wrap ((done.length : Int) + 1) = ((done.length + 1 : Nat) : Int) := by rw [wrap_ok (by omega) (by omega)]; omega
    rw [List.find?_cons] at g2
    have g := fun h => ih (done ++ [s]) (by rw [g1]; simp) h
    rw [show (done ++ [s]).length = done.length + 1 from by simp] at g
    clear ih hs ch
    cases hp : p s.clauses with
    | true =>
      rw [hp] at g2 c1
      have g2 : s.act = fb := g2
      subst g2
      clear g
      refine wR (gI ?_)
      repeat' (first | ((first | refine C_r ?_ | refine C0_r ?_ | refine O_r ?_ | refine R_r ?_); (conv => whnf); first | (refine ⟨fun hb => ?_, fun hb => ?_⟩ <;> try exact no_way) | refine A_o ?_ | refine B_o ?_ | refine C_o ?_ | refine R_o ?_ | refine fR ?_ | refine fRk ?_ | refine F_o ?_) | refine C_l (c1) ?_ | refine SA_l ?_ | refine V_l ?_ | refine L_l ?_ | refine Q_l ?_ | refine X_l ?_ | refine Xa_l ?_ | refine Xs_l ?_ | refine K_l ?_ | refine Ka_l ?_ | refine Lk_l ?_ | refine Up_l ?_ | refine Del_l ?_ | refine St_l ?_ | refine LU_l ?_ | refine Xw_l ?_ | refine Le_l ?_ | refine Se_l ?_ | refine M_l ?_ | refine A_l ?_ | refine A0_l ?_ | refine A1_l ?_ | refine Mk_l ?_ | refine Kz_l ?_ | refine W_l ?_ | refine C_d (c1) ?_ | refine SA_d ?_ | refine V_d ?_ | refine L_d ?_ | refine Q_d ?_ | refine X_d ?_ | refine Xs_d ?_ | refine K_d ?_ | refine Ka_d ?_ | refine Lk_d ?_ | refine Up_d ?_ | refine A_d ?_ | refine A0_d ?_ | refine St_d ?_ | refine LU_d ?_ | refine Xw_d ?_ | refine Le_d ?_ | refine Se_d ?_ | refine M_d ?_ | refine Mk_d ?_ | refine N_d ?_ | refine Kz_d ?_ | refine W_d ?_ | fail)
      all_goals first | exact ⟨rfl, rfl⟩ | trace_state
    | false =>
      rw [hp] at g2 c1
      have g := g g2
      refine wR (gI ?_)
      repeat' (first | ((first | refine C_r ?_ | refine C0_r ?_ | refine O_r ?_ | refine R_r ?_); (conv => whnf); first | (refine ⟨fun hb => ?_, fun hb => ?_⟩ <;> try exact no_way) | refine A_o ?_ | refine B_o ?_ | refine C_o ?_ | refine R_o ?_ | refine fR ?_ | refine fRk ?_ | refine F_o ?_) | refine C_l (c1) ?_ | refine SA_l ?_ | refine V_l ?_ | refine L_l ?_ | refine Q_l ?_ | refine X_l ?_ | refine Xa_l ?_ | refine Xs_l ?_ | refine K_l ?_ | refine Ka_l ?_ | refine Lk_l ?_ | refine Up_l ?_ | refine Del_l ?_ | refine St_l ?_ | refine LU_l ?_ | refine Xw_l ?_ | refine Le_l ?_ | refine Se_l ?_ | refine M_l ?_ | refine A_l ?_ | refine A0_l ?_ | refine A1_l ?_ | refine Mk_l ?_ | refine Kz_l ?_ | refine W_l ?_ | refine C_d (c1) ?_ | refine SA_d ?_ | refine V_d ?_ | refine L_d ?_ | refine Q_d ?_ | refine X_d ?_ | refine Xs_d ?_ | refine K_d ?_ | refine Ka_d ?_ | refine Lk_d ?_ | refine Up_d ?_ | refine A_d ?_ | refine A0_d ?_ | refine St_d ?_ | refine LU_d ?_ | refine Xw_d ?_ | refine Le_d ?_ | refine Se_d ?_ | refine M_d ?_ | refine Mk_d ?_ | refine N_d ?_ | refine Kz_d ?_ | refine W_d ?_ | fail)
      all_goals first | (rw [e7]; exact rE g) | trace_state
def findI (nr : Int) : List Span → Int → Int
  | [], _ => -1
  | x :: r, i => bif decide (x.lo ≤ nr) && decide (nr ≤ x.hi) then i else findI nr r (i + 1)
theorem findI_eq (nr : Int) : ∀ (l : List Span) (i : Int), (∃ x ∈ l, x.lo ≤ nr ∧ nr ≤ x.hi) → ∃ (k : Nat) (x : Span), findI nr l i = i + k ∧ l[k]? = some x ∧ x.lo ≤ nr ∧ nr ≤ x.hi
  | [], _, ⟨x, hx, _⟩ => by cases hx
  | y :: r, i, ⟨x, hx, h1, h2⟩ => by
    rw [findI]
    cases hc : decide (y.lo ≤ nr) && decide (nr ≤ y.hi) with
    | true =>
      rw [Bool.and_eq_true, decide_eq_true_eq, decide_eq_true_eq] at hc
      exact ⟨0, y, by simp, rfl, hc⟩
    | false =>
      have hx' : x ∈ r := by
        rcases List.mem_cons.1 hx with rfl | hx
        · rw [decide_eq_true h1, decide_eq_true h2] at hc; cases hc
        · exact hx
      obtain ⟨k, z, e1, e2, e3⟩ := findI_eq nr r (i + 1) ⟨x, hx', h1, h2⟩
      refine ⟨k + 1, z, ?_, e2, e3⟩
      simp only [cond_false]
      rw [e1]; omega
theorem findR (l : List Span) (hl : l.length < 2 ^ 60) (nr : Int) : Comp Try.prog 44 [lst Span.row l, int .u32 nr] (int .i64 (findI nr l 0)) := by
  generalize hfb : findI nr l 0 = fb
  have hz : (l.map Span.row).length = l.length := by simp
  refine Spec.body (C := cx [] 29) fits (fn := Try.f44) Try.func44 rfl (by decide) (by decide) (gI ?_)
  repeat' (first | ((first | refine C_r ?_ | refine C0_r ?_ | refine O_r ?_ | refine R_r ?_); (conv => whnf); first | (refine ⟨fun hb => ?_, fun hb => ?_⟩ <;> try exact no_way) | refine A_o ?_ | refine B_o ?_ | refine C_o ?_ | refine R_o ?_ | refine fR ?_ | refine fRk ?_ | refine F_o ?_) | refine SA_l ?_ | refine V_l ?_ | refine L_l ?_ | refine Q_l ?_ | refine X_l ?_ | refine Xa_l ?_ | refine Xs_l ?_ | refine K_l ?_ | refine Ka_l ?_ | refine Lk_l ?_ | refine Up_l ?_ | refine Del_l ?_ | refine St_l ?_ | refine LU_l ?_ | refine Xw_l ?_ | refine Le_l ?_ | refine Se_l ?_ | refine M_l ?_ | refine A_l ?_ | refine A0_l ?_ | refine A1_l ?_ | refine Mk_l ?_ | refine Kz_l ?_ | refine W_l ?_ | refine SA_d ?_ | refine V_d ?_ | refine L_d ?_ | refine Q_d ?_ | refine X_d ?_ | refine Xs_d ?_ | refine K_d ?_ | refine Ka_d ?_ | refine Lk_d ?_ | refine Up_d ?_ | refine A_d ?_ | refine A0_d ?_ | refine St_d ?_ | refine LU_d ?_ | refine Xw_d ?_ | refine Le_d ?_ | refine Se_d ?_ | refine M_d ?_ | refine Mk_d ?_ | refine N_d ?_ | refine Kz_d ?_ | refine W_d ?_ | fail)
  refine wLoop [0, 1, 5] 0 (l.length + 1) ?_
  refine (fun key => key l [] rfl hfb :
    (∀ (rest done : List Span), l = done ++ rest → findI nr rest done.length = fb →
    WR2 _ _ _ _ _ (rest.length + 1) [(0, lst Span.row l), (1, int .u32 nr), (5, int .i64 done.length)] []) → _) ?_
  clear hfb
  intro rest
  induction rest with
  | nil =>
    intro done g1 g2
    have hlen : l.length = done.length := by rw [g1]; simp
    have g2 : -1 = fb := g2
    subst g2
    have q : decide ((done.length : Int) < ((l.map Span.row).length : Int)) = false := by rw [decide_eq_false_iff_not, hz]; omega
    refine wR (gI ?_)
    repeat' (first | ((first | refine C_r ?_ | refine C0_r ?_ | refine O_r ?_ | refine R_r ?_); (conv => whnf); first | (refine ⟨fun hb => ?_, fun hb => ?_⟩ <;> try exact no_way) | refine A_o ?_ | refine B_o ?_ | refine C_o ?_ | refine R_o ?_ | refine fR ?_ | refine fRk ?_ | refine F_o ?_) | refine SA_l ?_ | refine V_l ?_ | refine L_l ?_ | refine Q_l ?_ | refine X_l ?_ | refine Xa_l ?_ | refine Xs_l ?_ | refine K_l ?_ | refine Ka_l ?_ | refine Lk_l ?_ | refine Up_l ?_ | refine Del_l ?_ | refine St_l ?_ | refine LU_l ?_ | refine Xw_l ?_ | refine Le_l ?_ | refine Se_l ?_ | refine M_l ?_ | refine A_l ?_ | refine A0_l ?_ | refine A1_l ?_ | refine Mk_l ?_ | refine Kz_l ?_ | refine W_l ?_ | refine SA_d ?_ | refine V_d ?_ | refine L_d ?_ | refine Q_d ?_ | refine X_d ?_ | refine Xs_d ?_ | refine K_d ?_ | refine Ka_d ?_ | refine Lk_d ?_ | refine Up_d ?_ | refine A_d ?_ | refine A0_d ?_ | refine St_d ?_ | refine LU_d ?_ | refine Xw_d ?_ | refine Le_d ?_ | refine Se_d ?_ | refine M_d ?_ | refine Mk_d ?_ | refine N_d ?_ | refine Kz_d ?_ | refine W_d ?_ | fail)
    all_goals first | exact ⟨rfl, rfl⟩ | trace_state
  | cons x rest ih =>
    intro done g1 g2
    have hx : l[done.length]? = some x := by rw [g1]; simp
    have hx : l[((done.length : Int)).toNat]? = some x := hx
    have hlen : l.length = done.length + (rest.length + 1) := by rw [g1]; simp
    have q : decide ((done.length : Int) < ((l.map Span.row).length : Int)) = true := by rw [decide_eq_true_eq, hz]; omega
    have e7 : IntKind.i64.wrap ((done.length : Int) + 1) = ((done.length + 1 : Nat) : Int) := by rw [wrap_ok (by omega) (by omega)]; omega
    rw [findI] at g2
    have g := fun h => ih (done ++ [x]) (by rw [g1]; simp) h
    rw [show (done ++ [x]).length = done.length + 1 from by simp, show ((done.length + 1 : Nat) : Int) = (done.length : Int) + 1 from by omega] at g
    rw [show ((done.length + 1 : Nat) : Int) = (done.length : Int) + 1 from by omega] at e7
    clear ih
    cases k1 : decide (x.lo ≤ nr) with
    | false =>
      rw [k1, Bool.false_and, cond_false] at g2
      have g := g g2
      refine wR (gI ?_)
      repeat' (first | ((first | refine C_r ?_ | refine C0_r ?_ | refine O_r ?_ | refine R_r ?_); (conv => whnf); first | (refine ⟨fun hb => ?_, fun hb => ?_⟩ <;> try exact no_way) | refine A_o ?_ | refine B_o ?_ | refine C_o ?_ | refine R_o ?_ | refine fR ?_ | refine fRk ?_ | refine F_o ?_) | refine SA_l ?_ | refine V_l ?_ | refine L_l ?_ | refine Q_l ?_ | refine X_l ?_ | refine Xa_l ?_ | refine Xs_l ?_ | refine K_l ?_ | refine Ka_l ?_ | refine Lk_l ?_ | refine Up_l ?_ | refine Del_l ?_ | refine St_l ?_ | refine LU_l ?_ | refine Xw_l ?_ | refine Le_l ?_ | refine Se_l ?_ | refine M_l ?_ | refine A_l ?_ | refine A0_l ?_ | refine A1_l ?_ | refine Mk_l ?_ | refine Kz_l ?_ | refine W_l ?_ | refine SA_d ?_ | refine V_d ?_ | refine L_d ?_ | refine Q_d ?_ | refine X_d ?_ | refine Xs_d ?_ | refine K_d ?_ | refine Ka_d ?_ | refine Lk_d ?_ | refine Up_d ?_ | refine A_d ?_ | refine A0_d ?_ | refine St_d ?_ | refine LU_d ?_ | refine Xw_d ?_ | refine Le_d ?_ | refine Se_d ?_ | refine M_d ?_ | refine Mk_d ?_ | refine N_d ?_ | refine Kz_d ?_ | refine W_d ?_ | fail)
      all_goals first | (rw [e7]; exact rE g) | trace_state
    | true =>
      rw [k1, Bool.true_and] at g2
      cases k2 : decide (nr ≤ x.hi) with
      | false =>
        rw [k2, cond_false] at g2
        have g := g g2
        refine wR (gI ?_)
        repeat' (first | ((first | refine C_r ?_ | refine C0_r ?_ | refine O_r ?_ | refine R_r ?_); (conv => whnf); first | (refine ⟨fun hb => ?_, fun hb => ?_⟩ <;> try exact no_way) | refine A_o ?_ | refine B_o ?_ | refine C_o ?_ | refine R_o ?_ | refine fR ?_ | refine fRk ?_ | refine F_o ?_) | refine SA_l ?_ | refine V_l ?_ | refine L_l ?_ | refine Q_l ?_ | refine X_l ?_ | refine Xa_l ?_ | refine Xs_l ?_ | refine K_l ?_ | refine Ka_l ?_ | refine Lk_l ?_ | refine Up_l ?_ | refine Del_l ?_ | refine St_l ?_ | refine LU_l ?_ | refine Xw_l ?_ | refine Le_l ?_ | refine Se_l ?_ | refine M_l ?_ | refine A_l ?_ | refine A0_l ?_ | refine A1_l ?_ | refine Mk_l ?_ | refine Kz_l ?_ | refine W_l ?_ | refine SA_d ?_ | refine V_d ?_ | refine L_d ?_ | refine Q_d ?_ | refine X_d ?_ | refine Xs_d ?_ | refine K_d ?_ | refine Ka_d ?_ | refine Lk_d ?_ | refine Up_d ?_ | refine A_d ?_ | refine A0_d ?_ | refine St_d ?_ | refine LU_d ?_ | refine Xw_d ?_ | refine Le_d ?_ | refine Se_d ?_ | refine M_d ?_ | refine Mk_d ?_ | refine N_d ?_ | refine Kz_d ?_ | refine W_d ?_ | fail)
        all_goals first | (rw [e7]; exact rE g) | trace_state
      | true =>
        rw [k2, cond_true] at g2
        subst g2
        clear g
        refine wR (gI ?_)
        repeat' (first | ((first | refine C_r ?_ | refine C0_r ?_ | refine O_r ?_ | refine R_r ?_); (conv => whnf); first | (refine ⟨fun hb => ?_, fun hb => ?_⟩ <;> try exact no_way) | refine A_o ?_ | refine B_o ?_ | refine C_o ?_ | refine R_o ?_ | refine fR ?_ | refine fRk ?_ | refine F_o ?_) | refine SA_l ?_ | refine V_l ?_ | refine L_l ?_ | refine Q_l ?_ | refine X_l ?_ | refine Xa_l ?_ | refine Xs_l ?_ | refine K_l ?_ | refine Ka_l ?_ | refine Lk_l ?_ | refine Up_l ?_ | refine Del_l ?_ | refine St_l ?_ | refine LU_l ?_ | refine Xw_l ?_ | refine Le_l ?_ | refine Se_l ?_ | refine M_l ?_ | refine A_l ?_ | refine A0_l ?_ | refine A1_l ?_ | refine Mk_l ?_ | refine Kz_l ?_ | refine W_l ?_ | refine SA_d ?_ | refine V_d ?_ | refine L_d ?_ | refine Q_d ?_ | refine X_d ?_ | refine Xs_d ?_ | refine K_d ?_ | refine Ka_d ?_ | refine Lk_d ?_ | refine Up_d ?_ | refine A_d ?_ | refine A0_d ?_ | refine St_d ?_ | refine LU_d ?_ | refine Xw_d ?_ | refine Le_d ?_ | refine Se_d ?_ | refine M_d ?_ | refine Mk_d ?_ | refine N_d ?_ | refine Kz_d ?_ | refine W_d ?_ | fail)
        all_goals first | exact ⟨rfl, rfl⟩ | trace_state
end Go.Proofs.Ytcplpllbinilmaa
