/- A part of a proof: functions of the program, walked over the abstract machine. -/
import Derived.Test.YtceccgnpkelpkaaCons5
set_option linter.unusedVariables false
set_option linter.unusedSimpArgs false
namespace Go.Proofs.Ytceccgnpkelpkaa
open Go Go.Am Go.Proofs
attribute [local irreducible] W WL DL WO RoundEnd
set_option maxRecDepth 10000
set_option maxHeartbeats 4000000
theorem chain_bad (l : List Int) (sw : Int) (hb : l.length < 2 ∨ 12 < l.length ∨ sw < 0 ∨ (l.length : Int) ≤ sw) : Comp Try.prog 7 [lst u64row l, int .i64 sw] (bool true) := by
  have c0 := alive14
  by_cases h1 : l.length < 2
  · have b1 : decide (((l.map u64row).length : Int) < 2) = true := decide_eq_true (by rw [List.length_map]; omega)
    refine Spec.body (C := cx [] 141) fits (fn := Try.f7) Try.func7 rfl (by decide) (by decide) (gI ?_)
    repeat' (first | ((first | refine C_r ?_ | refine C0_r ?_ | refine O_r ?_ | refine R_r ?_); (conv => whnf); first | (refine ⟨fun hb => ?_, fun hb => ?_⟩ <;> try exact no_way) | refine A_o ?_ | refine B_o ?_ | refine C_o ?_ | refine R_o ?_ | refine fR ?_ | refine fRk ?_ | refine F_o ?_) | refine C_l (c0) ?_ | refine SA_l ?_ | refine L_l ?_ | refine Q_l ?_ | refine X_l ?_ | refine Xa_l ?_ | refine Xs_l ?_ | refine K_l ?_ | refine Ka_l ?_ | refine Lk_l ?_ | refine Up_l ?_ | refine Del_l ?_ | refine St_l ?_ | refine LU_l ?_ | refine Xw_l ?_ | refine Le_l ?_ | refine Se_l ?_ | refine M_l ?_ | refine A_l ?_ | refine A0_l ?_ | refine A1_l ?_ | refine Mk_l ?_ | refine V_l ?_ | refine Kz_l ?_ | refine W_l ?_ | refine C_d (c0) ?_ | refine SA_d ?_ | refine L_d ?_ | refine Q_d ?_ | refine X_d ?_ | refine Xs_d ?_ | refine K_d ?_ | refine Ka_d ?_ | refine Lk_d ?_ | refine Up_d ?_ | refine A_d ?_ | refine A0_d ?_ | refine St_d ?_ | refine LU_d ?_ | refine Xw_d ?_ | refine Le_d ?_ | refine Se_d ?_ | refine M_d ?_ | refine N_d ?_ | refine V_d ?_ | refine Kz_d ?_ | refine W_d ?_ | fail)
    exact ⟨rfl, rfl⟩
  have b1 : decide (((l.map u64row).length : Int) < 2) = false := decide_eq_false (by rw [List.length_map]; omega)
  by_cases h2 : 12 < l.length
  · have b2 : decide (((l.map u64row).length : Int) > 12) = true := decide_eq_true (by rw [List.length_map]; omega)
    refine Spec.body (C := cx [] 141) fits (fn := Try.f7) Try.func7 rfl (by decide) (by decide) (gI ?_)
    repeat' (first | ((first | refine C_r ?_ | refine C0_r ?_ | refine O_r ?_ | refine R_r ?_); (conv => whnf); first | (refine ⟨fun hb => ?_, fun hb => ?_⟩ <;> try exact no_way) | refine A_o ?_ | refine B_o ?_ | refine C_o ?_ | refine R_o ?_ | refine fR ?_ | refine fRk ?_ | refine F_o ?_) | refine C_l (c0) ?_ | refine SA_l ?_ | refine L_l ?_ | refine Q_l ?_ | refine X_l ?_ | refine Xa_l ?_ | refine Xs_l ?_ | refine K_l ?_ | refine Ka_l ?_ | refine Lk_l ?_ | refine Up_l ?_ | refine Del_l ?_ | refine St_l ?_ | refine LU_l ?_ | refine Xw_l ?_ | refine Le_l ?_ | refine Se_l ?_ | refine M_l ?_ | refine A_l ?_ | refine A0_l ?_ | refine A1_l ?_ | refine Mk_l ?_ | refine V_l ?_ | refine Kz_l ?_ | refine W_l ?_ | refine C_d (c0) ?_ | refine SA_d ?_ | refine L_d ?_ | refine Q_d ?_ | refine X_d ?_ | refine Xs_d ?_ | refine K_d ?_ | refine Ka_d ?_ | refine Lk_d ?_ | refine Up_d ?_ | refine A_d ?_ | refine A0_d ?_ | refine St_d ?_ | refine LU_d ?_ | refine Xw_d ?_ | refine Le_d ?_ | refine Se_d ?_ | refine M_d ?_ | refine N_d ?_ | refine V_d ?_ | refine Kz_d ?_ | refine W_d ?_ | fail)
    exact ⟨rfl, rfl⟩
  have b2 : decide (((l.map u64row).length : Int) > 12) = false := decide_eq_false (by rw [List.length_map]; omega)
  by_cases h3 : sw < 0
  · have b3 : decide (sw < 0) = true := decide_eq_true h3
    refine Spec.body (C := cx [] 141) fits (fn := Try.f7) Try.func7 rfl (by decide) (by decide) (gI ?_)
    repeat' (first | ((first | refine C_r ?_ | refine C0_r ?_ | refine O_r ?_ | refine R_r ?_); (conv => whnf); first | (refine ⟨fun hb => ?_, fun hb => ?_⟩ <;> try exact no_way) | refine A_o ?_ | refine B_o ?_ | refine C_o ?_ | refine R_o ?_ | refine fR ?_ | refine fRk ?_ | refine F_o ?_) | refine C_l (c0) ?_ | refine SA_l ?_ | refine L_l ?_ | refine Q_l ?_ | refine X_l ?_ | refine Xa_l ?_ | refine Xs_l ?_ | refine K_l ?_ | refine Ka_l ?_ | refine Lk_l ?_ | refine Up_l ?_ | refine Del_l ?_ | refine St_l ?_ | refine LU_l ?_ | refine Xw_l ?_ | refine Le_l ?_ | refine Se_l ?_ | refine M_l ?_ | refine A_l ?_ | refine A0_l ?_ | refine A1_l ?_ | refine Mk_l ?_ | refine V_l ?_ | refine Kz_l ?_ | refine W_l ?_ | refine C_d (c0) ?_ | refine SA_d ?_ | refine L_d ?_ | refine Q_d ?_ | refine X_d ?_ | refine Xs_d ?_ | refine K_d ?_ | refine Ka_d ?_ | refine Lk_d ?_ | refine Up_d ?_ | refine A_d ?_ | refine A0_d ?_ | refine St_d ?_ | refine LU_d ?_ | refine Xw_d ?_ | refine Le_d ?_ | refine Se_d ?_ | refine M_d ?_ | refine N_d ?_ | refine V_d ?_ | refine Kz_d ?_ | refine W_d ?_ | fail)
    exact ⟨rfl, rfl⟩
  have b3 : decide (sw < 0) = false := decide_eq_false h3
  have b4 : decide (sw ≥ ((l.map u64row).length : Int)) = true := decide_eq_true (by rw [List.length_map]; omega)
  refine Spec.body (C := cx [] 141) fits (fn := Try.f7) Try.func7 rfl (by decide) (by decide) (gI ?_)
  repeat' (first | ((first | refine C_r ?_ | refine C0_r ?_ | refine O_r ?_ | refine R_r ?_); (conv => whnf); first | (refine ⟨fun hb => ?_, fun hb => ?_⟩ <;> try exact no_way) | refine A_o ?_ | refine B_o ?_ | refine C_o ?_ | refine R_o ?_ | refine fR ?_ | refine fRk ?_ | refine F_o ?_) | refine C_l (c0) ?_ | refine SA_l ?_ | refine L_l ?_ | refine Q_l ?_ | refine X_l ?_ | refine Xa_l ?_ | refine Xs_l ?_ | refine K_l ?_ | refine Ka_l ?_ | refine Lk_l ?_ | refine Up_l ?_ | refine Del_l ?_ | refine St_l ?_ | refine LU_l ?_ | refine Xw_l ?_ | refine Le_l ?_ | refine Se_l ?_ | refine M_l ?_ | refine A_l ?_ | refine A0_l ?_ | refine A1_l ?_ | refine Mk_l ?_ | refine V_l ?_ | refine Kz_l ?_ | refine W_l ?_ | refine C_d (c0) ?_ | refine SA_d ?_ | refine L_d ?_ | refine Q_d ?_ | refine X_d ?_ | refine Xs_d ?_ | refine K_d ?_ | refine Ka_d ?_ | refine Lk_d ?_ | refine Up_d ?_ | refine A_d ?_ | refine A0_d ?_ | refine St_d ?_ | refine LU_d ?_ | refine Xw_d ?_ | refine Le_d ?_ | refine Se_d ?_ | refine M_d ?_ | refine N_d ?_ | refine V_d ?_ | refine Kz_d ?_ | refine W_d ?_ | fail)
  exact ⟨rfl, rfl⟩
theorem row0 (b : Int) : Def.row (defAt 0 b) = [.sc (.string (nameAt 0)), .sc (.int .i64 7), .sc (.string ⟨#[]⟩), .sc (.string ⟨#[]⟩), .sc (.int .u64 b), .list []] := rfl
theorem row1 (i : Nat) (h : i ≠ 0) (b : Int) : Def.row (defAt i b) = [.sc (.string (nameAt i)), .sc (.int .i64 8), .sc (.string ⟨#[]⟩), .sc (.string ⟨#[]⟩), .sc (.int .u64 0), .list [[.sc (.int .i64 7), .sc (.string ⟨#[]⟩), .sc (.string ⟨#[]⟩), .sc (.int .u64 b), .list []], [.sc (.int .i64 5), .sc (.string ⟨#[]⟩), .sc (.string (nameAt (i - 1))), .sc (.int .u64 0), .list []]]] := by
  simp only [Def.row, defAt, if_neg h]; rfl
theorem chain14 (l : List Int) (sw : Int) (h1 : ¬ l.length < 2) (h2 : ¬ 12 < l.length) (h3 : ¬ sw < 0) (h4 : ¬ (l.length : Int) ≤ sw) (hl : ∀ b ∈ l, 0 ≤ b ∧ b < 18446744073709551616) : Comp Try.prog 7 [lst u64row l, int .i64 sw] (bool true) := by
  have c0 := alive14
  have b1 : decide (((l.map u64row).length : Int) < 2) = false := decide_eq_false (by rw [List.length_map]; omega)
  have b2 : decide (((l.map u64row).length : Int) > 12) = false := decide_eq_false (by rw [List.length_map]; omega)
  have b3 : decide (sw < 0) = false := decide_eq_false h3
  have b4 : decide (sw ≥ ((l.map u64row).length : Int)) = false := decide_eq_false (by rw [List.length_map]; omega)
  have c1 := tableA 0 _ (defsF 0 l) rfl (by rw [defs_len]; omega) (defs_nok 0 l)
  rw [table_all l hl (by omega)] at c1
  have hsz : (letters.size : Int) = 12 := rfl
  refine Spec.body (C := cx [(7, true)] 141) fits (fn := Try.f7) Try.func7 rfl (by decide) (by decide) (gI ?_)
  repeat' (first | ((first | refine C_r ?_ | refine C0_r ?_ | refine O_r ?_ | refine R_r ?_); (conv => whnf); first | (refine ⟨fun hb => ?_, fun hb => ?_⟩ <;> try exact no_way) | refine A_o ?_ | refine B_o ?_ | refine C_o ?_ | refine R_o ?_ | refine fR ?_ | refine fRk ?_ | refine F_o ?_) | refine C_l (c0) ?_ | refine SA_l ?_ | refine L_l ?_ | refine Q_l ?_ | refine X_l ?_ | refine Xa_l ?_ | refine Xs_l ?_ | refine K_l ?_ | refine Ka_l ?_ | refine Lk_l ?_ | refine Up_l ?_ | refine Del_l ?_ | refine St_l ?_ | refine LU_l ?_ | refine Xw_l ?_ | refine Le_l ?_ | refine Se_l ?_ | refine M_l ?_ | refine A_l ?_ | refine A0_l ?_ | refine A1_l ?_ | refine Mk_l ?_ | refine V_l ?_ | refine Kz_l ?_ | refine W_l ?_ | refine C_d (c0) ?_ | refine SA_d ?_ | refine L_d ?_ | refine Q_d ?_ | refine X_d ?_ | refine Xs_d ?_ | refine K_d ?_ | refine Ka_d ?_ | refine Lk_d ?_ | refine Up_d ?_ | refine A_d ?_ | refine A0_d ?_ | refine St_d ?_ | refine LU_d ?_ | refine Xw_d ?_ | refine Le_d ?_ | refine Se_d ?_ | refine M_d ?_ | refine N_d ?_ | refine V_d ?_ | refine Kz_d ?_ | refine W_d ?_ | fail)
  refine wLoop [0, 1, 6, 7, 8, 9] 1 (l.length + 1) ?_
  refine (fun key => key l [] _ rfl rfl :
    (∀ (rest done : List Int) (j : Int), l = done ++ rest → j = done.length →
    WR2 _ _ _ _ _ (rest.length + 1) [(0, lst u64row l), (1, int .i64 sw), (6, str letters), (7, .one (.arr 0 0 ((defsF 0 done).map Def.row).length)), (8, int .u64 0), (9, int .i64 j)] [.arr 0 true 6 ((defsF 0 done).map Def.row)]) → _) ?_
  intro rest
  induction rest with
  | nil =>
    intro done j k1 hj
    have : l = done := by simpa using k1
    subst this
    clear k1
    have b5 : (!((((scanF 0 l).map u64row).length : Int) == ((l.map u64row).length : Int))) = false := by simp [scan_len]
    refine wR (gI ?_)
    repeat' (first | ((first | refine C_r ?_ | refine C0_r ?_ | refine O_r ?_ | refine R_r ?_); (conv => whnf); first | (refine ⟨fun hb => ?_, fun hb => ?_⟩ <;> try exact no_way) | refine A_o ?_ | refine B_o ?_ | refine C_o ?_ | refine R_o ?_ | refine fR ?_ | refine fRk ?_ | refine F_o ?_) | refine C_l (numR14 _) ?_ | refine fun k => WL.crpU [0] [.arr 0 true 6 ((defsF 0 l).map Def.row)] _ _ c1 (oW ?_ _) | refine SA_l ?_ | refine L_l ?_ | refine Q_l ?_ | refine X_l ?_ | refine Xa_l ?_ | refine Xs_l ?_ | refine K_l ?_ | refine Ka_l ?_ | refine Lk_l ?_ | refine Up_l ?_ | refine Del_l ?_ | refine St_l ?_ | refine LU_l ?_ | refine Xw_l ?_ | refine Le_l ?_ | refine Se_l ?_ | refine M_l ?_ | refine A_l ?_ | refine A0_l ?_ | refine A1_l ?_ | refine Mk_l ?_ | refine V_l ?_ | refine Kz_l ?_ | refine W_l ?_ | refine C_d (numR14 _) ?_ | refine SA_d ?_ | refine L_d ?_ | refine Q_d ?_ | refine X_d ?_ | refine Xs_d ?_ | refine K_d ?_ | refine Ka_d ?_ | refine Lk_d ?_ | refine Up_d ?_ | refine A_d ?_ | refine A0_d ?_ | refine St_d ?_ | refine LU_d ?_ | refine Xw_d ?_ | refine Le_d ?_ | refine Se_d ?_ | refine M_d ?_ | refine N_d ?_ | refine V_d ?_ | refine Kz_d ?_ | refine W_d ?_ | fail)
    refine wLoop [0, 1, 7, 8, 11, 14] 1 (l.length + 1) ?_
    clear hj
    refine (fun key => key l [] [] _ 0 rfl rfl rfl rfl :
      (∀ (rest done dx : List Int) (j w : Int), l = done ++ rest → scanF 0 l = dx ++ scanF w rest → j = done.length → j = dx.length →
      WR2 _ _ _ _ _ (rest.length + 1) [(0, lst u64row l), (1, int .i64 sw), (7, .one (.arr 0 0 ((defsF 0 l).map Def.row).length)), (8, int .u64 w), (11, lst u64row (scanF 0 l)), (14, int .i64 j)] [.arr 0 true 6 ((defsF 0 l).map Def.row)]) → _) ?_
    intro rest
    induction rest with
    | nil =>
      intro done dx j w k1 k2 hj hj2
      have hlen : l.length = done.length := by rw [k1]; simp
      refine wR (gI ?_)
      by_cases hz : sw = 0
      · have b6 : (sw == 0) = true := by simp [hz]
        repeat' (first | ((first | refine C_r ?_ | refine C0_r ?_ | refine O_r ?_ | refine R_r ?_); (conv => whnf); first | (refine ⟨fun hb => ?_, fun hb => ?_⟩ <;> try exact no_way) | refine A_o ?_ | refine B_o ?_ | refine C_o ?_ | refine R_o ?_ | refine fR ?_ | refine fRk ?_ | refine F_o ?_) | refine SA_l ?_ | refine L_l ?_ | refine Q_l ?_ | refine X_l ?_ | refine Xa_l ?_ | refine Xs_l ?_ | refine K_l ?_ | refine Ka_l ?_ | refine Lk_l ?_ | refine Up_l ?_ | refine Del_l ?_ | refine St_l ?_ | refine LU_l ?_ | refine Xw_l ?_ | refine Le_l ?_ | refine Se_l ?_ | refine M_l ?_ | refine A_l ?_ | refine A0_l ?_ | refine A1_l ?_ | refine Mk_l ?_ | refine V_l ?_ | refine Kz_l ?_ | refine W_l ?_ | refine SA_d ?_ | refine L_d ?_ | refine Q_d ?_ | refine X_d ?_ | refine Xs_d ?_ | refine K_d ?_ | refine Ka_d ?_ | refine Lk_d ?_ | refine Up_d ?_ | refine A_d ?_ | refine A0_d ?_ | refine St_d ?_ | refine LU_d ?_ | refine Xw_d ?_ | refine Le_d ?_ | refine Se_d ?_ | refine M_d ?_ | refine N_d ?_ | refine V_d ?_ | refine Kz_d ?_ | refine W_d ?_ | fail)
        exact ⟨rfl, rfl⟩
      have b6 : (sw == 0) = false := by simp [hz]
      obtain ⟨pre, a, b, post, hpre, hlen2⟩ : ∃ pre a b post, l = pre ++ a :: b :: post ∧ (pre.length : Int) = sw - 1 := by
        have hlt : (sw - 1).toNat + 1 < l.length := by omega
        refine ⟨l.take (sw - 1).toNat, l[(sw - 1).toNat], l[(sw - 1).toNat + 1], l.drop ((sw - 1).toNat + 2), ?_, by rw [List.length_take]; omega⟩
        rw [List.getElem_cons_drop, List.getElem_cons_drop, List.take_append_drop]
      have ejs : IntKind.wrap .i64 (sw - 1) = sw - 1 := wrap_ok (by omega) (by omega)
      have ejs0 : 0 ≤ IntKind.wrap .i64 (sw - 1) := by omega
      have hs0 : 0 ≤ sw := by omega
      have hdefs : defsF 0 l = defsF 0 pre ++ defAt pre.length a :: defAt (pre.length + 1) b :: defsF (pre.length + 2) post := by
        rw [hpre, defs_append, Nat.zero_add]; rfl
      have hpl : (defsF 0 pre).length = pre.length := defs_len 0 pre
      have g0 : ((defsF 0 l).map Def.row)[(IntKind.wrap .i64 (sw - 1)).toNat]? = some (Def.row (defAt pre.length a)) := at_mid hdefs (by rw [ejs, hpl]; omega)
      have g1 : ((defsF 0 l).map Def.row)[sw.toNat]? = some (Def.row (defAt (pre.length + 1) b)) := at_mid (done := defsF 0 pre ++ [defAt pre.length a]) (rest := defsF (pre.length + 2) post) (by rw [hdefs]; simp) (by simp [hpl]; omega)
      have hi1 : sw.toNat = pre.length + 1 := by omega
      have hi0 : (IntKind.wrap .i64 (sw - 1)).toNat = pre.length := by omega
      have g2 : (((defsF 0 l).map Def.row).set sw.toNat (Def.row (defAt pre.length a)))[(IntKind.wrap .i64 (sw - 1)).toNat]? = some (Def.row (defAt pre.length a)) := by
        rw [List.getElem?_set_ne (by omega)]; exact g0
      have hset : (((defsF 0 l).map Def.row).set sw.toNat (Def.row (defAt pre.length a))).set (IntKind.wrap .i64 (sw - 1)).toNat (Def.row (defAt (pre.length + 1) b)) = (defsF 0 pre ++ defAt (pre.length + 1) b :: defAt pre.length a :: defsF (pre.length + 2) post).map Def.row := by
        rw [hi1, hi0, hdefs, ← hpl]
        simp [List.set_append]
      have c2 := tableA 0 ((defsF 0 l).map Def.row).length (defsF 0 pre ++ defAt (pre.length + 1) b :: defAt pre.length a :: defsF (pre.length + 2) post) (by rw [← hset, List.length_set, List.length_set]) (by simp [defs_len]; have := congrArg List.length hpre; simp at this; omega) (fun d hd => by
        rcases List.mem_append.1 hd with hd | hd
        · exact defs_nok _ _ d hd
        · rcases List.mem_cons.1 hd with rfl | hd
          · exact defAt_nok _ _
          · rcases List.mem_cons.1 hd with rfl | hd
            · exact defAt_nok _ _
            · exact defs_nok _ _ d hd)
      rw [table_swap pre a b _ (fun x hx => hl x (by rw [hpre]; simp [hx])) (by have := congrArg List.length hpre; simp at this; omega), ← hset] at c2
      have b7 : ((pre.length : Int) == IntKind.wrap .i64 (sw - 1)) = true := by rw [ejs, hlen2]; simp
      clear hdefs hset
      generalize defAt pre.length a = dA at *
      generalize defAt (pre.length + 1) b = dB at *
      obtain ⟨na, ⟨ka, oa, ma, ua, la⟩⟩ := dA
      obtain ⟨nb, ⟨kb, ob, mb, ub, lb⟩⟩ := dB
      repeat' (first | ((first | refine C_r ?_ | refine C0_r ?_ | refine O_r ?_ | refine R_r ?_); (conv => whnf); first | (refine ⟨fun hb => ?_, fun hb => ?_⟩ <;> try exact no_way) | refine A_o ?_ | refine B_o ?_ | refine C_o ?_ | refine R_o ?_ | refine fR ?_ | refine fRk ?_ | refine F_o ?_) | refine C_l (numR14 _) ?_ | refine fun k => WL.crpU [0] [.arr 0 true 6 ((((defsF 0 l).map Def.row).set sw.toNat (Def.row ⟨na, ⟨ka, oa, ma, ua, la⟩⟩)).set (IntKind.wrap .i64 (sw - 1)).toNat (Def.row ⟨nb, ⟨kb, ob, mb, ub, lb⟩⟩))] _ _ c2 (oW ?_ _) | refine SA_l ?_ | refine L_l ?_ | refine Q_l ?_ | refine X_l ?_ | refine Xa_l ?_ | refine Xs_l ?_ | refine K_l ?_ | refine Ka_l ?_ | refine Lk_l ?_ | refine Up_l ?_ | refine Del_l ?_ | refine St_l ?_ | refine LU_l ?_ | refine Xw_l ?_ | refine Le_l ?_ | refine Se_l ?_ | refine M_l ?_ | refine A_l ?_ | refine A0_l ?_ | refine A1_l ?_ | refine Mk_l ?_ | refine V_l ?_ | refine Kz_l ?_ | refine W_l ?_ | refine C_d (numR14 _) ?_ | refine SA_d ?_ | refine L_d ?_ | refine Q_d ?_ | refine X_d ?_ | refine Xs_d ?_ | refine K_d ?_ | refine Ka_d ?_ | refine Lk_d ?_ | refine Up_d ?_ | refine A_d ?_ | refine A0_d ?_ | refine St_d ?_ | refine LU_d ?_ | refine Xw_d ?_ | refine Le_d ?_ | refine Se_d ?_ | refine M_d ?_ | refine N_d ?_ | refine V_d ?_ | refine Kz_d ?_ | refine W_d ?_ | fail)
      all_goals exact ⟨rfl, rfl⟩
    | cons b rest ih2 =>
      intro done dx j w k1 k2 hj hj2
      have hlen : l.length = done.length + (rest.length + 1) := by rw [k1]; simp
      have k2' : scanF 0 l = dx ++ or64 w b :: scanF (or64 w b) rest := k2
      have gb := at_mid (f := u64row) k1 hj
      have gx := at_mid (f := u64row) k2' hj2
      have b6 : (!(or64 w b == or64 w b)) = false := by simp
      refine wR (gI ?_)
      repeat' (first | ((first | refine C_r ?_ | refine C0_r ?_ | refine O_r ?_ | refine R_r ?_); (conv => whnf); first | (refine ⟨fun hb => ?_, fun hb => ?_⟩ <;> try exact no_way) | refine A_o ?_ | refine B_o ?_ | refine C_o ?_ | refine R_o ?_ | refine fR ?_ | refine fRk ?_ | refine F_o ?_) | refine SA_l ?_ | refine L_l ?_ | refine Q_l ?_ | refine X_l ?_ | refine Xa_l ?_ | refine Xs_l ?_ | refine K_l ?_ | refine Ka_l ?_ | refine Lk_l ?_ | refine Up_l ?_ | refine Del_l ?_ | refine St_l ?_ | refine LU_l ?_ | refine Xw_l ?_ | refine Le_l ?_ | refine Se_l ?_ | refine M_l ?_ | refine A_l ?_ | refine A0_l ?_ | refine A1_l ?_ | refine Mk_l ?_ | refine V_l ?_ | refine Kz_l ?_ | refine W_l ?_ | refine SA_d ?_ | refine L_d ?_ | refine Q_d ?_ | refine X_d ?_ | refine Xs_d ?_ | refine K_d ?_ | refine Ka_d ?_ | refine Lk_d ?_ | refine Up_d ?_ | refine A_d ?_ | refine A0_d ?_ | refine St_d ?_ | refine LU_d ?_ | refine Xw_d ?_ | refine Le_d ?_ | refine Se_d ?_ | refine M_d ?_ | refine N_d ?_ | refine V_d ?_ | refine Kz_d ?_ | refine W_d ?_ | fail)
      refine rE (ih2 (done ++ [b]) (dx ++ [or64 w b]) _ (or64 w b) (by rw [k1]; simp) (by rw [k2']; simp) ?_ ?_)
      · rw [wrap_ok (by omega) (by omega)]; simp [hj]
      · rw [wrap_ok (by omega) (by omega)]; simp [hj2]
  | cons b rest ih =>
    intro done j k1 hj
    have hlen : l.length = done.length + (rest.length + 1) := by rw [k1]; simp
    have gx := at_mid (f := u64row) k1 hj
    have ej : IntKind.wrap .i64 (j + 1) = j + 1 := wrap_ok (by omega) (by omega)
    have hn2 : letters.extract j.toNat (IntKind.wrap .i64 (j + 1)).toNat = nameAt done.length := by
      rw [ej, hj]; rfl
    have g := ih (done ++ [b]) (IntKind.wrap .i64 (j + 1)) (by rw [k1]; simp) (by rw [ej, hj]; simp)
    rw [defs_append, List.map_append, Nat.zero_add] at g
    have e1 : (defsF done.length [b]).map Def.row = [Def.row (defAt done.length b)] := rfl
    rw [e1] at g
    by_cases hz : done.length = 0
    · have : done = [] := List.length_eq_zero_iff.1 hz
      subst this
      have hj0 : j = 0 := by simpa using hj
      subst hj0
      have e2 : ([] : List Int).length = 0 := rfl
      rw [e2, row0] at g
      refine wR (gI ?_)
      repeat' (first | ((first | refine C_r ?_ | refine C0_r ?_ | refine O_r ?_ | refine R_r ?_); (conv => whnf); first | (refine ⟨fun hb => ?_, fun hb => ?_⟩ <;> try exact no_way) | refine A_o ?_ | refine B_o ?_ | refine C_o ?_ | refine R_o ?_ | refine fR ?_ | refine fRk ?_ | refine F_o ?_) | refine SA_l ?_ | refine L_l ?_ | refine Q_l ?_ | refine X_l ?_ | refine Xa_l ?_ | refine Xs_l ?_ | refine K_l ?_ | refine Ka_l ?_ | refine Lk_l ?_ | refine Up_l ?_ | refine Del_l ?_ | refine St_l ?_ | refine LU_l ?_ | refine Xw_l ?_ | refine Le_l ?_ | refine Se_l ?_ | refine M_l ?_ | refine A_l ?_ | refine A0_l ?_ | refine A1_l ?_ | refine Mk_l ?_ | refine V_l ?_ | refine Kz_l ?_ | refine W_l ?_ | refine SA_d ?_ | refine L_d ?_ | refine Q_d ?_ | refine X_d ?_ | refine Xs_d ?_ | refine K_d ?_ | refine Ka_d ?_ | refine Lk_d ?_ | refine Up_d ?_ | refine A_d ?_ | refine A0_d ?_ | refine St_d ?_ | refine LU_d ?_ | refine Xw_d ?_ | refine Le_d ?_ | refine Se_d ?_ | refine M_d ?_ | refine N_d ?_ | refine V_d ?_ | refine Kz_d ?_ | refine W_d ?_ | fail)
      all_goals exact rE g
    · rw [row1 _ hz] at g
      have ej2 : IntKind.wrap .i64 (j - 1) = j - 1 := wrap_ok (by omega) (by omega)
      have hn1 : letters.extract (IntKind.wrap .i64 (j - 1)).toNat j.toNat = nameAt (done.length - 1) := by
        rw [ej2, hj]
        have e3 : ((done.length : Int) - 1).toNat = done.length - 1 := by omega
        have e4 : ((done.length : Int)).toNat = done.length - 1 + 1 := by omega
        rw [e3, e4]; rfl
      have hdl := defs_len 0 done
      refine wR (gI ?_)
      repeat' (first | ((first | refine C_r ?_ | refine C0_r ?_ | refine O_r ?_ | refine R_r ?_); (conv => whnf); first | (refine ⟨fun hb => ?_, fun hb => ?_⟩ <;> try exact no_way) | refine A_o ?_ | refine B_o ?_ | refine C_o ?_ | refine R_o ?_ | refine fR ?_ | refine fRk ?_ | refine F_o ?_) | refine SA_l ?_ | refine L_l ?_ | refine Q_l ?_ | refine X_l ?_ | refine Xa_l ?_ | refine Xs_l ?_ | refine K_l ?_ | refine Ka_l ?_ | refine Lk_l ?_ | refine Up_l ?_ | refine Del_l ?_ | refine St_l ?_ | refine LU_l ?_ | refine Xw_l ?_ | refine Le_l ?_ | refine Se_l ?_ | refine M_l ?_ | refine A_l ?_ | refine A0_l ?_ | refine A1_l ?_ | refine Mk_l ?_ | refine V_l ?_ | refine Kz_l ?_ | refine W_l ?_ | refine SA_d ?_ | refine L_d ?_ | refine Q_d ?_ | refine X_d ?_ | refine Xs_d ?_ | refine K_d ?_ | refine Ka_d ?_ | refine Lk_d ?_ | refine Up_d ?_ | refine A_d ?_ | refine A0_d ?_ | refine St_d ?_ | refine LU_d ?_ | refine Xw_d ?_ | refine Le_d ?_ | refine Se_d ?_ | refine M_d ?_ | refine N_d ?_ | refine V_d ?_ | refine Kz_d ?_ | refine W_d ?_ | fail)
      all_goals first | exact rE g | (exfalso; have := of_decide_eq_false (by assumption : decide (j > 0) = false); omega)
end Go.Proofs.Ytceccgnpkelpkaa
