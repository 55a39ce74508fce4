/- The document's reader of tokens: a text taken apart. -/
import Derived.Test.YtkjlmgfmedehiaaRk14
set_option linter.unusedVariables false
set_option linter.unusedSimpArgs false
namespace Go.Proofs.Ytkjlmgfmedehiaa
open Go Go.Am Go.Proofs
attribute [local irreducible] W WL DL WO RoundEnd
set_option maxRecDepth 10000
set_option maxHeartbeats 4000000
set_option linter.unusedVariables false
set_option linter.unusedSimpArgs false
theorem refSplitR [GVals] (s : ByteArray) (file : Int) (hs : s.size ≤ 20000) : Comp Try.prog 15 [str s, int .i64 file] (splitV file (lexL file (s.size + 1) s.data.toList (1, 1) [])) := by
  generalize hfb : splitV file (lexL file (s.size + 1) s.data.toList (1, 1) []) = fb
  have b1 : decide ((s.size : Int) > 20000) = false := decide_eq_false (by omega)
  have hsz : s.size = s.data.toList.length := rfl
  refine Spec.body (C := cx [(6, false)] 71) fits (fn := Try.f15) Try.func15 rfl (by decide) (by decide) (gI ?_)
  repeat' (first | ((first | refine C_r ?_ | refine C0_r ?_ | refine O_r ?_ | refine R_r ?_); (conv => whnf); first | (refine ⟨fun hb => ?_, fun hb => ?_⟩ <;> try exact no_way) | refine A_o ?_ | refine B_o ?_ | refine C_o ?_ | refine R_o ?_ | refine fR ?_ | refine fRk ?_ | refine F_o ?_) | refine SA_l ?_ | refine V_l ?_ | refine L_l ?_ | refine Q_l ?_ | refine X_l ?_ | refine Xa_l ?_ | refine Xs_l ?_ | refine K_l ?_ | refine Ka_l ?_ | refine Lk_l ?_ | refine Up_l ?_ | refine Del_l ?_ | refine St_l ?_ | refine LU_l ?_ | refine Xw_l ?_ | refine Le_l ?_ | refine Se_l ?_ | refine M_l ?_ | refine A_l ?_ | refine A0_l ?_ | refine A1_l ?_ | refine Mk_l ?_ | refine Kz_l ?_ | refine W_l ?_ | fail)
  refine wLoop [0, 1, 5, 6, 7] 2 (s.size + 2) ?_
  refine (fun key => key (s.size + 1) 0 [] (by omega) (by omega) (by simp) hfb.symm :
    (∀ (k i : Nat) (l : List Tok), s.size - i < k → i ≤ s.size → l.length ≤ i → fb = splitV file (lexL file k (s.data.toList.drop i) (walkF (1, 1) (s.data.toList.take i)) l) →
    WR2 _ _ _ _ _ (k + 1) [(0, str s), (1, int .i64 file), (5, .one (.ptr 0 0)), (6, .one (.arr 1 0 (l.map Tok.row).length)), (7, int .i64 i)] [.var [.d (.sc (.int .i64 0)), .d (.sc (.int .i64 0)), .d (.sc (.complex .f64 0 0))], .arr 0 false 4 (l.map Tok.row)]) → _) ?_
  clear hfb b1
  intro k
  induction k with
  | zero => intro i l hk; omega
  | succ k ih =>
    intro i l hk hi hl hr
    cases hd : s.data.toList.drop i with
    | nil =>
      rw [hd, lex_nil] at hr
      have hlen := congrArg List.length hd
      rw [List.length_drop, List.length_nil] at hlen
      have q : decide ((i : Int) < (s.size : Int)) = false := by rw [decide_eq_false_iff_not]; omega
      refine wR (gI ?_)
      repeat' (first | ((first | refine C_r ?_ | refine C0_r ?_ | refine O_r ?_ | refine R_r ?_); (conv => whnf); first | (refine ⟨fun hb => ?_, fun hb => ?_⟩ <;> try exact no_way) | refine A_o ?_ | refine B_o ?_ | refine C_o ?_ | refine R_o ?_ | refine fR ?_ | refine fRk ?_ | refine F_o ?_) | refine SA_l ?_ | refine V_l ?_ | refine L_l ?_ | refine Q_l ?_ | refine X_l ?_ | refine Xa_l ?_ | refine Xs_l ?_ | refine K_l ?_ | refine Ka_l ?_ | refine Lk_l ?_ | refine Up_l ?_ | refine Del_l ?_ | refine St_l ?_ | refine LU_l ?_ | refine Xw_l ?_ | refine Le_l ?_ | refine Se_l ?_ | refine M_l ?_ | refine A_l ?_ | refine A0_l ?_ | refine A1_l ?_ | refine Mk_l ?_ | refine Kz_l ?_ | refine W_l ?_ | fail)
      exact ⟨by rw [hr]; unfold splitV faultV; rw [F_zero], rfl⟩
    | cons b r =>
      have hlen := congrArg List.length hd
      rw [List.length_drop, List.length_cons] at hlen
      have q : decide ((i : Int) < (s.size : Int)) = true := by rw [decide_eq_true_eq]; omega
      have c1 := atRefR s i (by omega)
      have hat : atF s i = walkF (1, 1) (s.data.toList.take i) := by
        unfold atF capF
        rw [if_neg (by omega), if_neg (by omega)]; simp
      rw [hat] at c1
      have hp2 := walk_len (1, 1) (s.data.toList.take i)
      rw [List.length_take] at hp2
      have step : ∀ w : List UInt8, w <+: b :: r → s.data.toList.drop (i + w.length) = (b :: r).drop w.length ∧ walkF (1, 1) (s.data.toList.take (i + w.length)) = walkF (walkF (1, 1) (s.data.toList.take i)) w ∧ w.length ≤ r.length + 1 := by
        intro w hw
        have h2 := hw.length_le
        rw [List.prefix_iff_eq_take] at hw
        refine ⟨by rw [← List.drop_drop, hd], ?_, by simpa using h2⟩
        rw [List.take_add, walk_append, hd, ← hw]
      have c3 := skipLR s i b r (by omega) hd
      have c4 := oneLR s i b r (by omega) hd
      rw [hd] at hr
      simp only [lexL] at hr
      have hs0 := @skip_pre (b :: r)
      have ht0 := @tok_pre b r
      generalize walkF (1, 1) (s.data.toList.take i) = p at *
      generalize blkL (b :: r) = bo at *
      generalize tokC b r = to at *
      obtain ⟨p1, p2⟩ := p
      have c2 := spotR p1 p2
      cases bo with
      | none =>
        simp only [outS2, skipV] at c3
        clear c4 step hs0 ht0 ih
        refine wR (gI ?_)
        repeat' (first | ((first | refine C_r ?_ | refine C0_r ?_ | refine O_r ?_ | refine R_r ?_); (conv => whnf); first | (refine ⟨fun hb => ?_, fun hb => ?_⟩ <;> try exact no_way) | refine A_o ?_ | refine B_o ?_ | refine C_o ?_ | refine R_o ?_ | refine fR ?_ | refine fRk ?_ | refine F_o ?_) | refine C_l (c1) ?_ | refine C_l (c2) ?_ | refine C_l (c3) ?_ | refine SA_l ?_ | refine V_l ?_ | refine L_l ?_ | refine Q_l ?_ | refine X_l ?_ | refine Xa_l ?_ | refine Xs_l ?_ | refine K_l ?_ | refine Ka_l ?_ | refine Lk_l ?_ | refine Up_l ?_ | refine Del_l ?_ | refine St_l ?_ | refine LU_l ?_ | refine Xw_l ?_ | refine Le_l ?_ | refine Se_l ?_ | refine M_l ?_ | refine A_l ?_ | refine A0_l ?_ | refine A1_l ?_ | refine Mk_l ?_ | refine Kz_l ?_ | refine W_l ?_ | refine C_d (c1) ?_ | refine C_d (c2) ?_ | refine C_d (c3) ?_ | refine SA_d ?_ | refine V_d ?_ | refine L_d ?_ | refine Q_d ?_ | refine X_d ?_ | refine Xs_d ?_ | refine K_d ?_ | refine Ka_d ?_ | refine Lk_d ?_ | refine Up_d ?_ | refine A_d ?_ | refine A0_d ?_ | refine St_d ?_ | refine LU_d ?_ | refine Xw_d ?_ | refine Le_d ?_ | refine Se_d ?_ | refine M_d ?_ | refine N_d ?_ | refine Kz_d ?_ | refine W_d ?_ | fail)
        exact ⟨by rw [hr]; rfl, rfl⟩
      | some w =>
        cases w with
        | cons c w =>
          obtain ⟨g1, g2, g3⟩ := step (c :: w) (hs0 rfl)
          simp only [List.length_cons] at g1 g2 g3
          have g := ih (i + (w.length + 1)) l (by omega) (by omega) (by omega) (by rw [hr, g1, g2])
          have e2 : (i : Int) + (((c :: w).length : Nat) : Int) = ((i + (w.length + 1) : Nat) : Int) := by simp only [List.length_cons]; omega
          simp only [outS2, skipV] at c3
          rw [e2] at c3
          have q2 : decide (((i + (w.length + 1) : Nat) : Int) > (i : Int)) = true := by rw [decide_eq_true_eq]; omega
          clear c4 step hs0 ht0 ih g1 g2 hr
          refine wR (gI ?_)
          repeat' (first | ((first | refine C_r ?_ | refine C0_r ?_ | refine O_r ?_ | refine R_r ?_); (conv => whnf); first | (refine ⟨fun hb => ?_, fun hb => ?_⟩ <;> try exact no_way) | refine A_o ?_ | refine B_o ?_ | refine C_o ?_ | refine R_o ?_ | refine fR ?_ | refine fRk ?_ | refine F_o ?_) | refine C_l (c1) ?_ | refine C_l (c2) ?_ | refine C_l (c3) ?_ | refine SA_l ?_ | refine V_l ?_ | refine L_l ?_ | refine Q_l ?_ | refine X_l ?_ | refine Xa_l ?_ | refine Xs_l ?_ | refine K_l ?_ | refine Ka_l ?_ | refine Lk_l ?_ | refine Up_l ?_ | refine Del_l ?_ | refine St_l ?_ | refine LU_l ?_ | refine Xw_l ?_ | refine Le_l ?_ | refine Se_l ?_ | refine M_l ?_ | refine A_l ?_ | refine A0_l ?_ | refine A1_l ?_ | refine Mk_l ?_ | refine Kz_l ?_ | refine W_l ?_ | refine C_d (c1) ?_ | refine C_d (c2) ?_ | refine C_d (c3) ?_ | refine SA_d ?_ | refine V_d ?_ | refine L_d ?_ | refine Q_d ?_ | refine X_d ?_ | refine Xs_d ?_ | refine K_d ?_ | refine Ka_d ?_ | refine Lk_d ?_ | refine Up_d ?_ | refine A_d ?_ | refine A0_d ?_ | refine St_d ?_ | refine LU_d ?_ | refine Xw_d ?_ | refine Le_d ?_ | refine Se_d ?_ | refine M_d ?_ | refine N_d ?_ | refine Kz_d ?_ | refine W_d ?_ | fail)
          exact rE g
        | nil =>
          cases to with
          | none =>
            have e0 : (i : Int) + ((([] : List UInt8).length : Nat) : Int) = (i : Int) := by simp
            simp only [outS2, skipV, outT, oneV] at c3 c4
            rw [e0] at c3
            have q2 : decide ((i : Int) > (i : Int)) = false := by rw [decide_eq_false_iff_not]; omega
            clear step hs0 ht0 ih
            refine wR (gI ?_)
            repeat' (first | ((first | refine C_r ?_ | refine C0_r ?_ | refine O_r ?_ | refine R_r ?_); (conv => whnf); first | (refine ⟨fun hb => ?_, fun hb => ?_⟩ <;> try exact no_way) | refine A_o ?_ | refine B_o ?_ | refine C_o ?_ | refine R_o ?_ | refine fR ?_ | refine fRk ?_ | refine F_o ?_) | refine C_l (c1) ?_ | refine C_l (c2) ?_ | refine C_l (c3) ?_ | refine C_l (c4) ?_ | refine SA_l ?_ | refine V_l ?_ | refine L_l ?_ | refine Q_l ?_ | refine X_l ?_ | refine Xa_l ?_ | refine Xs_l ?_ | refine K_l ?_ | refine Ka_l ?_ | refine Lk_l ?_ | refine Up_l ?_ | refine Del_l ?_ | refine St_l ?_ | refine LU_l ?_ | refine Xw_l ?_ | refine Le_l ?_ | refine Se_l ?_ | refine M_l ?_ | refine A_l ?_ | refine A0_l ?_ | refine A1_l ?_ | refine Mk_l ?_ | refine Kz_l ?_ | refine W_l ?_ | refine C_d (c1) ?_ | refine C_d (c2) ?_ | refine C_d (c3) ?_ | refine C_d (c4) ?_ | refine SA_d ?_ | refine V_d ?_ | refine L_d ?_ | refine Q_d ?_ | refine X_d ?_ | refine Xs_d ?_ | refine K_d ?_ | refine Ka_d ?_ | refine Lk_d ?_ | refine Up_d ?_ | refine A_d ?_ | refine A0_d ?_ | refine St_d ?_ | refine LU_d ?_ | refine Xw_d ?_ | refine Le_d ?_ | refine Se_d ?_ | refine M_d ?_ | refine N_d ?_ | refine Kz_d ?_ | refine W_d ?_ | fail)
            exact ⟨by rw [hr]; rfl, rfl⟩
          | some q2 =>
            obtain ⟨kind, raw, t⟩ := q2
            obtain ⟨g0, g4⟩ := ht0 rfl
            obtain ⟨g1, g2, g3⟩ := step raw g0
            simp only at hr
            have g := ih (i + raw.length) (l ++ [⟨kind, bal t, file, (p1, p2)⟩]) (by omega) (by omega) (by simp; omega) (by rw [hr, g1, g2])
            have e2 : (i : Int) + ((raw.length : Nat) : Int) = ((i + raw.length : Nat) : Int) := by omega
            have e0 : (i : Int) + ((([] : List UInt8).length : Nat) : Int) = (i : Int) := by simp
            simp only [outS2, skipV, outT, oneV] at c3 c4
            rw [e0] at c3
            rw [e2] at c4
            rw [List.map_append] at g
            have q2 : decide ((i : Int) > (i : Int)) = false := by rw [decide_eq_false_iff_not]; omega
            clear step hs0 ht0 ih g1 g2 hr
            refine wR (gI ?_)
            repeat' (first | ((first | refine C_r ?_ | refine C0_r ?_ | refine O_r ?_ | refine R_r ?_); (conv => whnf); first | (refine ⟨fun hb => ?_, fun hb => ?_⟩ <;> try exact no_way) | refine A_o ?_ | refine B_o ?_ | refine C_o ?_ | refine R_o ?_ | refine fR ?_ | refine fRk ?_ | refine F_o ?_) | refine C_l (c1) ?_ | refine C_l (c2) ?_ | refine C_l (c3) ?_ | refine C_l (c4) ?_ | refine SA_l ?_ | refine V_l ?_ | refine L_l ?_ | refine Q_l ?_ | refine X_l ?_ | refine Xa_l ?_ | refine Xs_l ?_ | refine K_l ?_ | refine Ka_l ?_ | refine Lk_l ?_ | refine Up_l ?_ | refine Del_l ?_ | refine St_l ?_ | refine LU_l ?_ | refine Xw_l ?_ | refine Le_l ?_ | refine Se_l ?_ | refine M_l ?_ | refine A_l ?_ | refine A0_l ?_ | refine A1_l ?_ | refine Mk_l ?_ | refine Kz_l ?_ | refine W_l ?_ | refine C_d (c1) ?_ | refine C_d (c2) ?_ | refine C_d (c3) ?_ | refine C_d (c4) ?_ | refine SA_d ?_ | refine V_d ?_ | refine L_d ?_ | refine Q_d ?_ | refine X_d ?_ | refine Xs_d ?_ | refine K_d ?_ | refine Ka_d ?_ | refine Lk_d ?_ | refine Up_d ?_ | refine A_d ?_ | refine A0_d ?_ | refine St_d ?_ | refine LU_d ?_ | refine Xw_d ?_ | refine Le_d ?_ | refine Se_d ?_ | refine M_d ?_ | refine N_d ?_ | refine Kz_d ?_ | refine W_d ?_ | fail)
            exact rE g
end Go.Proofs.Ytkjlmgfmedehiaa
