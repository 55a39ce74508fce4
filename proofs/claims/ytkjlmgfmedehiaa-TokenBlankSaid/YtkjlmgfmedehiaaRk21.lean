/- The law TokenBlank. -/
import Derived.Test.YtkjlmgfmedehiaaRk20
import Derived.Test.YtkjlmgfmedehiaaTy0
set_option linter.unusedVariables false
set_option linter.unusedSimpArgs false
namespace Go.Proofs.Ytkjlmgfmedehiaa
open Go Go.Am Go.Proofs
attribute [local irreducible] W WL DL WO RoundEnd
set_option maxRecDepth 10000
set_option maxHeartbeats 4000000
set_option linter.unusedVariables false
set_option linter.unusedSimpArgs false
theorem rep_len (k : Int) (t : List UInt8) : (repL k t).length ≤ t.length + 2 := by
  unfold repL
  split <;> simp
theorem padB (l : List Tok) (pad : List Int) (h : l.length < pad.length) : True := trivial
/-- the tokens with blanks between them, and what they are read as -/
theorem blankOk [GVals] (s : ByteArray) (pad : List Int) (l m : List Tok) (T : ByteArray) (b1 : decide ((s.size : Int) > 500) = false) (b2 : decide (((pad.map padRow).length : Int) < IntKind.i64.wrap (((l.map Tok.row).length : Int) + 1)) = false)
    (hl : l.length ≤ 500) (hp : l.length < pad.length) (hps : pad.length < 2 ^ 50)
    (hT : T.data.toList = padL (l.map unT) (pad.map wOf)) (hTs : T.size ≤ 20000)
    (hml : m.length = l.length) (hm : ∀ (i : Nat) (x y : Tok), m[i]? = some x → l[i]? = some y → sameT 5 x y)
    (c1 : Comp Try.prog 15 [str s, int .i64 0] (splitV 0 (.ok l)))
    (c3 : Comp Try.prog 14 [str T, int .i64 5] (splitV 5 (.ok m))) : Comp Try.prog 6 [str s, lst padRow pad] (Am.bool true) := by
  have c0 := alive9
  have z0 : fEq (F 0) 0 = true := by
    have := fEq_self 0 (by decide)
    rwa [F_zero] at this ⊢
  have q1 : (⟨#[32]⟩ : ByteArray).size = 1 := rfl
  have q2 : (⟨#[34]⟩ : ByteArray).size = 1 := rfl
  unfold splitV faultV at c1 c3
  refine Spec.body (C := cx [] 139) fits (fn := Try.f6) Try.func6 rfl (by decide) (by decide) (gI ?_)
  repeat' (first | ((first | refine C_r ?_ | refine C0_r ?_ | refine O_r ?_ | refine R_r ?_); (conv => whnf); first | (refine ⟨fun hb => ?_, fun hb => ?_⟩ <;> try exact no_way) | refine A_o ?_ | refine B_o ?_ | refine C_o ?_ | refine R_o ?_ | refine fR ?_ | refine fRk ?_ | refine F_o ?_) | refine C_l (c0) ?_ | refine C_l (c1) ?_ | refine SA_l ?_ | refine V_l ?_ | refine L_l ?_ | refine Q_l ?_ | refine X_l ?_ | refine Xa_l ?_ | refine Xs_l ?_ | refine K_l ?_ | refine Ka_l ?_ | refine Lk_l ?_ | refine Up_l ?_ | refine Del_l ?_ | refine St_l ?_ | refine LU_l ?_ | refine Xw_l ?_ | refine Le_l ?_ | refine Se_l ?_ | refine M_l ?_ | refine A_l ?_ | refine A0_l ?_ | refine A1_l ?_ | refine Mk_l ?_ | refine Kz_l ?_ | refine W_l ?_ | refine C_d (c0) ?_ | refine C_d (c1) ?_ | refine SA_d ?_ | refine V_d ?_ | refine L_d ?_ | refine Q_d ?_ | refine X_d ?_ | refine Xs_d ?_ | refine K_d ?_ | refine Ka_d ?_ | refine Lk_d ?_ | refine Up_d ?_ | refine A_d ?_ | refine A0_d ?_ | refine St_d ?_ | refine LU_d ?_ | refine Xw_d ?_ | refine Le_d ?_ | refine Se_d ?_ | refine M_d ?_ | refine Mk_d ?_ | refine N_d ?_ | refine Kz_d ?_ | refine W_d ?_ | fail)
  clear c0 c1
  refine wLoop [1, 6, 8, 9, 10] 1 (l.length + 1) ?_
  refine (fun key => key l pad 0 ⟨#[]⟩ rfl rfl (by omega) (by rw [hT]; rfl) :
    (∀ (rest : List Tok) (ps : List Int) (j : Nat) (S : ByteArray), l.drop j = rest → pad.drop j = ps → j ≤ l.length → S.data.toList ++ padL (rest.map unT) (ps.map wOf) = T.data.toList →
    WR2 _ _ _ _ _ (rest.length + 1) [(1, lst padRow pad), (6, lst Tok.row l), (8, lst strow9 blanksB), (9, str S), (10, int .i64 j)] _) → _) ?_
  have hTz : T.size = T.data.toList.length := rfl
  have q1' : (⟨#[32]⟩ : ByteArray).data.toList = [32] := rfl
  have q2' : (⟨#[34]⟩ : ByteArray).data.toList = [34] := rfl
  intro rest
  induction rest with
  | nil =>
    intro ps j S h1 h2 hj h3
    have hjl : j = l.length := by have := congrArg List.length h1; rw [List.length_drop, List.length_nil] at this; omega
    obtain ⟨n, ps, rfl⟩ : ∃ n r, ps = n :: r := by
      cases ps with
      | nil => have := congrArg List.length h2; rw [List.length_drop, List.length_nil] at this; omega
      | cons n r => exact ⟨n, r, rfl⟩
    have gp : pad[((j : Int)).toNat]? = some n := by
      have : (pad.drop j)[0]? = some n := by rw [h2]; rfl
      rwa [List.getElem?_drop, Nat.add_zero] at this
    have gw := w_row n
    have gi := ix_bound n
    unfold ixOf at gw gi
    generalize hw : wOf n = w at *
    have h3 : S.data.toList ++ (32 :: w) = T.data.toList := by
      rw [← h3]
      show _ = S.data.toList ++ (32 :: wOf n)
      rw [hw]
    have hlen := congrArg List.length h3
    rw [List.length_append, List.length_cons, ← hTz] at hlen
    have hSz : S.size = S.data.toList.length := rfl
    have q3 : (S ++ (⟨#[32]⟩ : ByteArray)).size = S.size + 1 := by rw [ByteArray.size_append]; rfl
    have q4 : (bal w).size = w.length := bal_size w
    have hSe : S ++ (⟨#[32]⟩ : ByteArray) ++ bal w = T := by
      apply ba_ext
      rw [ByteArray.data_append, ByteArray.data_append, Array.toList_append, Array.toList_append, bal_list, ← h3, q1']; simp
    have c3 : Comp Try.prog 14 [str (S ++ (⟨#[32]⟩ : ByteArray) ++ bal w), int .i64 5] (.tup [.one (.d (.list (m.map Tok.row))), .agg [.d (.sc (.int .i64 0)), .d (.sc (.int .i64 0)), .d (.sc (.complex .f64 (F (0, 0).1) (F (0, 0).2)))]]) := by rw [hSe]; exact c3
    have e1 : decide ((j : Int) ≤ ((l.map Tok.row).length : Int)) = true := by rw [decide_eq_true_eq, List.length_map]; omega
    have e2 : ((j : Int) == ((l.map Tok.row).length : Int)) = true := by rw [beq_iff_eq, List.length_map]; omega
    clear h3 hSe
    refine wR (gI ?_)
    repeat' (first | ((first | refine C_r ?_ | refine C0_r ?_ | refine O_r ?_ | refine R_r ?_); (conv => whnf); first | (refine ⟨fun hb => ?_, fun hb => ?_⟩ <;> try exact no_way) | refine A_o ?_ | refine B_o ?_ | refine C_o ?_ | refine R_o ?_ | refine fR ?_ | refine fRk ?_ | refine F_o ?_) | refine C_l (c3) ?_ | refine SA_l ?_ | refine V_l ?_ | refine L_l ?_ | refine Q_l ?_ | refine X_l ?_ | refine Xa_l ?_ | refine Xs_l ?_ | refine K_l ?_ | refine Ka_l ?_ | refine Lk_l ?_ | refine Up_l ?_ | refine Del_l ?_ | refine St_l ?_ | refine LU_l ?_ | refine Xw_l ?_ | refine Le_l ?_ | refine Se_l ?_ | refine M_l ?_ | refine A_l ?_ | refine A0_l ?_ | refine A1_l ?_ | refine Mk_l ?_ | refine Kz_l ?_ | refine W_l ?_ | refine C_d (c3) ?_ | refine SA_d ?_ | refine V_d ?_ | refine L_d ?_ | refine Q_d ?_ | refine X_d ?_ | refine Xs_d ?_ | refine K_d ?_ | refine Ka_d ?_ | refine Lk_d ?_ | refine Up_d ?_ | refine A_d ?_ | refine A0_d ?_ | refine St_d ?_ | refine LU_d ?_ | refine Xw_d ?_ | refine Le_d ?_ | refine Se_d ?_ | refine M_d ?_ | refine Mk_d ?_ | refine N_d ?_ | refine Kz_d ?_ | refine W_d ?_ | fail)
    · exfalso
      simp only [beq_self_eq_true, z0, Bool.true_and, Bool.and_true, Bool.not_true] at hb
      cases hb
    clear c3 gw gi
    refine wLoop [6, 11, 13] 2 (m.length + 1) ?_
    refine (fun key => key m.length 0 (by omega) rfl :
      (∀ (c : Nat) (j : Nat), j ≤ m.length → c = m.length - j →
      WR2 _ _ _ _ _ (c + 1) [(6, lst Tok.row l), (11, lst Tok.row m), (13, int .i64 j)] _) → _) ?_
    intro c
    induction c with
    | zero =>
      intro i g1 g2
      have q : decide ((i : Int) < ((l.map Tok.row).length : Int)) = false := by rw [decide_eq_false_iff_not, List.length_map]; omega
      refine wR (gI ?_)
      repeat' (first | ((first | refine C_r ?_ | refine C0_r ?_ | refine O_r ?_ | refine R_r ?_); (conv => whnf); first | (refine ⟨fun hb => ?_, fun hb => ?_⟩ <;> try exact no_way) | refine A_o ?_ | refine B_o ?_ | refine C_o ?_ | refine R_o ?_ | refine fR ?_ | refine fRk ?_ | refine F_o ?_) | refine SA_l ?_ | refine V_l ?_ | refine L_l ?_ | refine Q_l ?_ | refine X_l ?_ | refine Xa_l ?_ | refine Xs_l ?_ | refine K_l ?_ | refine Ka_l ?_ | refine Lk_l ?_ | refine Up_l ?_ | refine Del_l ?_ | refine St_l ?_ | refine LU_l ?_ | refine Xw_l ?_ | refine Le_l ?_ | refine Se_l ?_ | refine M_l ?_ | refine A_l ?_ | refine A0_l ?_ | refine A1_l ?_ | refine Mk_l ?_ | refine Kz_l ?_ | refine W_l ?_ | refine SA_d ?_ | refine V_d ?_ | refine L_d ?_ | refine Q_d ?_ | refine X_d ?_ | refine Xs_d ?_ | refine K_d ?_ | refine Ka_d ?_ | refine Lk_d ?_ | refine Up_d ?_ | refine A_d ?_ | refine A0_d ?_ | refine St_d ?_ | refine LU_d ?_ | refine Xw_d ?_ | refine Le_d ?_ | refine Se_d ?_ | refine M_d ?_ | refine Mk_d ?_ | refine N_d ?_ | refine Kz_d ?_ | refine W_d ?_ | fail)
      all_goals exact ⟨rfl, rfl⟩
    | succ c ih =>
      intro i g1 g2
      have q : decide ((i : Int) < ((l.map Tok.row).length : Int)) = true := by rw [decide_eq_true_eq, List.length_map]; omega
      have e7 : IntKind.i64.wrap ((i : Int) + 1) = ((i + 1 : Nat) : Int) := by rw [wrap_ok (by omega) (by omega)]; omega
      obtain ⟨x, hx⟩ : ∃ x, m[i]? = some x := ⟨_, List.getElem?_eq_getElem (by omega)⟩
      obtain ⟨y, hy⟩ : ∃ y, l[i]? = some y := ⟨_, List.getElem?_eq_getElem (by omega)⟩
      obtain ⟨r1, r2, r3⟩ := hm i x y hx hy
      obtain ⟨xk, xt, xf, xp⟩ := x
      obtain ⟨yk, yt, yf, yp⟩ := y
      simp only at r1 r2 r3
      subst r1; subst r2; subst r3
      have gx : m[((i : Int)).toNat]? = some ⟨xk, xt, 5, xp⟩ := hx
      have gy : l[((i : Int)).toNat]? = some ⟨xk, xt, yf, yp⟩ := hy
      have k1 : (!(xk == xk)) = false := by simp
      have k2 : (!(xt == xt)) = false := by rw [ba_beq]; simp
      have k3 : (!((5 : Int) == 5)) = false := rfl
      refine wR (gI ?_)
      repeat' (first | ((first | refine C_r ?_ | refine C0_r ?_ | refine O_r ?_ | refine R_r ?_); (conv => whnf); first | (refine ⟨fun hb => ?_, fun hb => ?_⟩ <;> try exact no_way) | refine A_o ?_ | refine B_o ?_ | refine C_o ?_ | refine R_o ?_ | refine fR ?_ | refine fRk ?_ | refine F_o ?_) | refine SA_l ?_ | refine V_l ?_ | refine L_l ?_ | refine Q_l ?_ | refine X_l ?_ | refine Xa_l ?_ | refine Xs_l ?_ | refine K_l ?_ | refine Ka_l ?_ | refine Lk_l ?_ | refine Up_l ?_ | refine Del_l ?_ | refine St_l ?_ | refine LU_l ?_ | refine Xw_l ?_ | refine Le_l ?_ | refine Se_l ?_ | refine M_l ?_ | refine A_l ?_ | refine A0_l ?_ | refine A1_l ?_ | refine Mk_l ?_ | refine Kz_l ?_ | refine W_l ?_ | refine SA_d ?_ | refine V_d ?_ | refine L_d ?_ | refine Q_d ?_ | refine X_d ?_ | refine Xs_d ?_ | refine K_d ?_ | refine Ka_d ?_ | refine Lk_d ?_ | refine Up_d ?_ | refine A_d ?_ | refine A0_d ?_ | refine St_d ?_ | refine LU_d ?_ | refine Xw_d ?_ | refine Le_d ?_ | refine Se_d ?_ | refine M_d ?_ | refine Mk_d ?_ | refine N_d ?_ | refine Kz_d ?_ | refine W_d ?_ | fail)
      all_goals (rw [e7]; exact rE (ih (i + 1) (by omega) (by omega)))
  | cons x rest ih =>
    intro ps j S h1 h2 hj h3
    have hjl : j < l.length := by have := congrArg List.length h1; rw [List.length_drop, List.length_cons] at this; omega
    obtain ⟨n, ps, rfl⟩ : ∃ n r, ps = n :: r := by
      cases ps with
      | nil => have := congrArg List.length h2; rw [List.length_drop, List.length_nil] at this; omega
      | cons n r => exact ⟨n, r, rfl⟩
    have gp : pad[((j : Int)).toNat]? = some n := by
      have : (pad.drop j)[0]? = some n := by rw [h2]; rfl
      rwa [List.getElem?_drop, Nat.add_zero] at this
    have gx : l[((j : Int)).toNat]? = some x := by
      have : (l.drop j)[0]? = some x := by rw [h1]; rfl
      rwa [List.getElem?_drop, Nat.add_zero] at this
    have h1' : l.drop (j + 1) = rest := by rw [← List.drop_drop, h1]; rfl
    have h2' : pad.drop (j + 1) = ps := by rw [← List.drop_drop, h2]; rfl
    have gw := w_row n
    have gi := ix_bound n
    unfold ixOf at gw gi
    generalize hw : wOf n = w at *
    have h3 : S.data.toList ++ (32 :: (w ++ (repL x.kind x.text.data.toList ++ padL (rest.map unT) (ps.map wOf)))) = T.data.toList := by
      rw [← h3]
      show _ = S.data.toList ++ (32 :: (wOf n ++ (repL x.kind x.text.data.toList ++ padL (rest.map unT) (ps.map wOf))))
      rw [hw]
    have hlen := congrArg List.length h3
    rw [List.length_append, List.length_cons, List.length_append, List.length_append, ← hTz] at hlen
    have hSz : S.size = S.data.toList.length := rfl
    have e1 : decide ((j : Int) ≤ ((l.map Tok.row).length : Int)) = true := by rw [decide_eq_true_eq, List.length_map]; omega
    have e2 : ((j : Int) == ((l.map Tok.row).length : Int)) = false := by rw [beq_eq_false_iff_ne, List.length_map]; omega
    have e7 : IntKind.i64.wrap ((j : Int) + 1) = ((j + 1 : Nat) : Int) := by rw [wrap_ok (by omega) (by omega)]; omega
    have q3 : (S ++ (⟨#[32]⟩ : ByteArray)).size = S.size + 1 := by rw [ByteArray.size_append]; rfl
    have q4 : (bal w).size = w.length := bal_size w
    have q5 : (S ++ (⟨#[32]⟩ : ByteArray) ++ bal w).size = S.size + 1 + w.length := by rw [ByteArray.size_append, ByteArray.size_append, q4]; rfl
    have hxs : x.text.size = x.text.data.toList.length := rfl
    cases hk : (x.kind == 4) with
    | true =>
      have hrep : repL x.kind x.text.data.toList = 34 :: (x.text.data.toList ++ [34]) := by unfold repL; rw [hk]; rfl
      rw [hrep] at hlen h3
      simp only [List.length_cons, List.length_append, List.length_nil] at hlen
      have q6 : (S ++ (⟨#[32]⟩ : ByteArray) ++ bal w ++ (⟨#[34]⟩ : ByteArray)).size = S.size + 1 + w.length + 1 := by rw [ByteArray.size_append, q5]; rfl
      have q7 : (S ++ (⟨#[32]⟩ : ByteArray) ++ bal w ++ (⟨#[34]⟩ : ByteArray) ++ x.text).size = S.size + 1 + w.length + 1 + x.text.size := by rw [ByteArray.size_append, q6]
      have g := ih ps (j + 1) (S ++ (⟨#[32]⟩ : ByteArray) ++ bal w ++ (⟨#[34]⟩ : ByteArray) ++ x.text ++ (⟨#[34]⟩ : ByteArray)) h1' h2' (by omega) (by
        rw [← h3]
        simp only [ByteArray.data_append, Array.toList_append, bal_list, q1', q2', List.append_assoc, List.cons_append, List.nil_append])
      clear ih h3 c3
      refine wR (gI ?_)
      repeat' (first | ((first | refine C_r ?_ | refine C0_r ?_ | refine O_r ?_ | refine R_r ?_); (conv => whnf); first | (refine ⟨fun hb => ?_, fun hb => ?_⟩ <;> try exact no_way) | refine A_o ?_ | refine B_o ?_ | refine C_o ?_ | refine R_o ?_ | refine fR ?_ | refine fRk ?_ | refine F_o ?_) | refine SA_l ?_ | refine V_l ?_ | refine L_l ?_ | refine Q_l ?_ | refine X_l ?_ | refine Xa_l ?_ | refine Xs_l ?_ | refine K_l ?_ | refine Ka_l ?_ | refine Lk_l ?_ | refine Up_l ?_ | refine Del_l ?_ | refine St_l ?_ | refine LU_l ?_ | refine Xw_l ?_ | refine Le_l ?_ | refine Se_l ?_ | refine M_l ?_ | refine A_l ?_ | refine A0_l ?_ | refine A1_l ?_ | refine Mk_l ?_ | refine Kz_l ?_ | refine W_l ?_ | refine SA_d ?_ | refine V_d ?_ | refine L_d ?_ | refine Q_d ?_ | refine X_d ?_ | refine Xs_d ?_ | refine K_d ?_ | refine Ka_d ?_ | refine Lk_d ?_ | refine Up_d ?_ | refine A_d ?_ | refine A0_d ?_ | refine St_d ?_ | refine LU_d ?_ | refine Xw_d ?_ | refine Le_d ?_ | refine Se_d ?_ | refine M_d ?_ | refine Mk_d ?_ | refine N_d ?_ | refine Kz_d ?_ | refine W_d ?_ | fail)
      all_goals (rw [e7]; exact rE g)
    | false =>
      have hrep : repL x.kind x.text.data.toList = x.text.data.toList := by unfold repL; rw [hk]; rfl
      rw [hrep] at hlen h3
      have g := ih ps (j + 1) (S ++ (⟨#[32]⟩ : ByteArray) ++ bal w ++ x.text) h1' h2' (by omega) (by
        rw [← h3]
        simp only [ByteArray.data_append, Array.toList_append, bal_list, q1', q2', List.append_assoc, List.cons_append, List.nil_append])
      clear ih h3 c3
      refine wR (gI ?_)
      repeat' (first | ((first | refine C_r ?_ | refine C0_r ?_ | refine O_r ?_ | refine R_r ?_); (conv => whnf); first | (refine ⟨fun hb => ?_, fun hb => ?_⟩ <;> try exact no_way) | refine A_o ?_ | refine B_o ?_ | refine C_o ?_ | refine R_o ?_ | refine fR ?_ | refine fRk ?_ | refine F_o ?_) | refine SA_l ?_ | refine V_l ?_ | refine L_l ?_ | refine Q_l ?_ | refine X_l ?_ | refine Xa_l ?_ | refine Xs_l ?_ | refine K_l ?_ | refine Ka_l ?_ | refine Lk_l ?_ | refine Up_l ?_ | refine Del_l ?_ | refine St_l ?_ | refine LU_l ?_ | refine Xw_l ?_ | refine Le_l ?_ | refine Se_l ?_ | refine M_l ?_ | refine A_l ?_ | refine A0_l ?_ | refine A1_l ?_ | refine Mk_l ?_ | refine Kz_l ?_ | refine W_l ?_ | refine SA_d ?_ | refine V_d ?_ | refine L_d ?_ | refine Q_d ?_ | refine X_d ?_ | refine Xs_d ?_ | refine K_d ?_ | refine Ka_d ?_ | refine Lk_d ?_ | refine Up_d ?_ | refine A_d ?_ | refine A0_d ?_ | refine St_d ?_ | refine LU_d ?_ | refine Xw_d ?_ | refine Le_d ?_ | refine Se_d ?_ | refine M_d ?_ | refine Mk_d ?_ | refine N_d ?_ | refine Kz_d ?_ | refine W_d ?_ | fail)
      all_goals (rw [e7]; exact rE g)
theorem padL_len : ∀ (l : List Tok) (ws : List (List UInt8)), (∀ w ∈ ws, w.length ≤ 7) → (padL (l.map unT) ws).length ≤ 10 * l.length + 8 + (l.map fun x => x.text.size).sum
  | _, [], _ => by
    cases ‹List Tok› <;> simp [padL]
  | [], w :: ws, h => by
    have := h w (by simp)
    simp only [padL, List.map_nil, List.length_cons]; omega
  | x :: l, w :: ws, h => by
    have h1 := h w (by simp)
    have h2 := padL_len l ws fun v hv => h v (by simp [hv])
    have h3 := rep_len x.kind x.text.data.toList
    have hxs : x.text.size = x.text.data.toList.length := rfl
    show (32 :: (w ++ (repL x.kind x.text.data.toList ++ padL (l.map unT) ws))).length ≤ _
    simp only [List.length_cons, List.length_append, List.map_cons, List.sum_cons]
    omega
theorem lex_text {file : Int} {u : List UInt8} {p : Nat × Nat} {ts : List Tok} (h : Lex file u p ts) : (ts.map fun x => x.text.size).sum ≤ u.length := by
  induction h with
  | nil p => simp
  | @skip u p ts c w h1 h2 ih =>
    rw [List.length_drop] at ih; omega
  | @tok b r p ts kind raw t h1 h2 h3 ih =>
    obtain ⟨g1, r', g2, g3⟩ := tok_again h2
    have hl := (tok_pre h2).1.length_le
    have ht : t.length ≤ raw.length := by
      rw [g1]; unfold repL
      split <;> simp <;> omega
    rw [List.length_drop] at ih
    simp only [List.map_cons, List.sum_cons, bal_size]
    omega
theorem w_len (n : Int) : (wOf n).length ≤ 7 := by
  have h := w_mem n
  generalize wOf n = w at *
  simp only [blanksL, List.mem_cons, List.not_mem_nil, or_false] at h
  rcases h with rfl | rfl | rfl | rfl | rfl | rfl <;> decide
theorem tokenBlank [GVals] (s : ByteArray) (pad : List Int) (hps : pad.length < 2 ^ 50) : Comp Try.prog 6 [str s, lst padRow pad] (Am.bool true) := by
  by_cases hbig : 20000 < s.size
  · exact blankLive s pad [] 9 (1, 1) (refSplitBig s 0 hbig) rfl
  · have c1 := refSplitR s 0 (by omega)
    cases h1 : lexL 0 (s.size + 1) s.data.toList (1, 1) [] with
    | error p =>
      rw [h1] at c1
      exact blankLive s pad [] 3 p c1 rfl
    | ok l =>
      rw [h1] at c1
      cases h2 : (decide ((s.size : Int) > 500) || decide (((pad.map padRow).length : Int) < IntKind.i64.wrap (((l.map Tok.row).length : Int) + 1))) with
      | true => exact blankLive s pad (l.map Tok.row) 0 (0, 0) c1 (by rw [h2]; rfl)
      | false =>
        rw [Bool.or_eq_false_iff] at h2
        obtain ⟨b1, b2⟩ := h2
        have hs5 : s.size ≤ 500 := by rw [decide_eq_false_iff_not] at b1; omega
        have hsz : s.size = s.data.toList.length := rfl
        have hl := lex_len 0 (s.size + 1) s.data.toList (1, 1) [] l h1
        simp only [List.length_nil] at hl
        obtain ⟨ts, h3, h4⟩ := lex_of 0 (s.size + 1) s.data.toList (1, 1) [] l (by omega) h1
        rw [List.nil_append] at h3
        subst h3
        have hp : l.length < pad.length := by
          rw [decide_eq_false_iff_not, List.length_map, List.length_map, wrap_ok (by omega) (by omega)] at b2
          omega
        obtain ⟨m, g1, g2, g3⟩ := pad_lex 5 l (pad.map wOf) (1, 1) (lex_good h4) (by rw [List.length_map]; exact hp) (by
          intro w hw
          obtain ⟨n, _, rfl⟩ := List.mem_map.1 hw
          exact w_mem n)
        have hT : (bal (padL (l.map unT) (pad.map wOf))).data.toList = padL (l.map unT) (pad.map wOf) := bal_list _
        have hTl := padL_len l (pad.map wOf) (by
          intro w hw
          obtain ⟨n, _, rfl⟩ := List.mem_map.1 hw
          exact w_len n)
        have htx := lex_text h4
        have hTs : (bal (padL (l.map unT) (pad.map wOf))).size ≤ 20000 := by rw [bal_size]; omega
        have c3 := splitLR (bal (padL (l.map unT) (pad.map wOf))) 5 hTs
        rw [hT, lex_to g1 _ [] (by rw [bal_size]; omega), List.nil_append] at c3
        exact blankOk s pad l m _ b1 b2 (by omega) hp hps hT hTs g2 g3 c1 c3
theorem tokenBlank_typed [GVals] {x0 x1 : List D} (y0 : Typed Try.prog 9 x0) (y1 : Typed Try.prog 38 x1) : Comp Try.prog 6 [argV (aggTy Try.prog 9) x0, argV (aggTy Try.prog 38) x1] (Am.bool true) := by
  have a0 : aggTy Try.prog 9 = false := by unfold aggTy; rw [Try.underlying9]
  have a1 : aggTy Try.prog 38 = false := by unfold aggTy; rw [Try.underlying38]
  obtain ⟨s, rfl, _⟩ := y0.str_inv Try.underlying9
  obtain ⟨rows, rfl, hr, hs⟩ := y1.slice_inv Try.underlying38
  obtain ⟨l, rfl, hl⟩ := list_typed (f := padRow) (p := fun _ => True) (fun row _ h => by
    obtain ⟨n, rfl, w⟩ := h.int_inv Try.underlying3
    exact ⟨n, rfl, trivial⟩) hr
  rw [a0, a1]
  refine tokenBlank s l ?_
  have hb : Try.prog.bytesOf 3 = 8 := by kernel_rfl
  have h2 : reachBytes = 140737488351232 := rfl
  rw [List.length_map, hb] at hs
  omega
end Go.Proofs.Ytkjlmgfmedehiaa
