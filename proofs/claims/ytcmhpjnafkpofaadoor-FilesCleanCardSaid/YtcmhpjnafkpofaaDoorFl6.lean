/- Paths: joined, and files found. -/
import Derived.Test.YtcmhpjnafkpofaaDoorFl5
set_option linter.unusedVariables false
set_option linter.unusedSimpArgs false
namespace Go.Proofs.YtcmhpjnafkpofaaDoor
open Go Go.Am Go.Proofs
attribute [local irreducible] W WL DL WO RoundEnd
set_option maxRecDepth 10000
set_option maxHeartbeats 4000000
set_option linter.unusedVariables false
set_option linter.unusedSimpArgs false
structure File where
  path : ByteArray
  text : ByteArray
def File.row (x : File) : List D := [.sc (.string x.path), .sc (.string x.text)]
def joinA (f p : ByteArray) : ByteArray × Bool := bif Lib.hasPrefix p.data.toList [47] then cleanA p else cleanA (dirOf f ++ p)
theorem dir_size (f : ByteArray) : (dirOf f).size ≤ f.size := by
  unfold dirOf
  rw [ByteArray.size_extract]
  omega
theorem filesJoinR [GVals] (f p : ByteArray) (hf : f.size < 2 ^ 31) (hp : p.size < 2 ^ 31 - 32) : Comp Tryd.prog 14 [str f, str p] (pathA (joinA f p)) := by
  have c1 := prefixR p
  have c2 := lastR f (by omega)
  have hd := dir_size f
  have hll := last_le f
  have hsz : (dirOf f ++ p).size = (dirOf f).size + p.size := ByteArray.size_append
  unfold joinA
  cases hpre : Lib.hasPrefix p.data.toList [47] with
  | true =>
    have c3 := cleanR p (by omega)
    rw [hpre] at c1
    simp only [cond_true]
    generalize cleanA p = q at *
    obtain ⟨q1, q2⟩ := q
    cases q2 <;> dsimp only [pathA] at c3 ⊢
    all_goals refine Spec.body (C := cx [] 22) fits (fn := Tryd.f14) Tryd.func14 rfl (by decide) (by decide) (gI ?_)
    all_goals repeat' (first | ((first | refine C_r ?_ | refine C0_r ?_ | refine O_r ?_ | refine R_r ?_); (conv => whnf); first | (refine ⟨fun hb => ?_, fun hb => ?_⟩ <;> try exact no_way) | refine A_o ?_ | refine B_o ?_ | refine C_o ?_ | refine R_o ?_ | refine fR ?_ | refine fRk ?_ | refine F_o ?_) | refine C_l (c1) ?_ | refine C_l (c3) ?_ | refine SA_l ?_ | refine V_l ?_ | refine L_l ?_ | refine Q_l ?_ | refine X_l ?_ | refine Xa_l ?_ | refine Xs_l ?_ | refine K_l ?_ | refine Ka_l ?_ | refine Lk_l ?_ | refine Up_l ?_ | refine Del_l ?_ | refine St_l ?_ | refine LU_l ?_ | refine Xw_l ?_ | refine Le_l ?_ | refine Se_l ?_ | refine M_l ?_ | refine A_l ?_ | refine A0_l ?_ | refine A1_l ?_ | refine Mk_l ?_ | refine Kz_l ?_ | refine W_l ?_ | refine C_d (c1) ?_ | refine C_d (c3) ?_ | refine SA_d ?_ | refine V_d ?_ | refine L_d ?_ | refine Q_d ?_ | refine X_d ?_ | refine Xs_d ?_ | refine K_d ?_ | refine Ka_d ?_ | refine Lk_d ?_ | refine Up_d ?_ | refine A_d ?_ | refine A0_d ?_ | refine St_d ?_ | refine LU_d ?_ | refine Xw_d ?_ | refine Le_d ?_ | refine Se_d ?_ | refine M_d ?_ | refine Mk_d ?_ | refine N_d ?_ | refine Kz_d ?_ | refine W_d ?_ | fail)
    all_goals first | exact ⟨rfl, rfl⟩ | trace_state
  | false =>
    have c3 := cleanR (dirOf f ++ p) (by omega)
    rw [hpre] at c1
    simp only [cond_false]
    have e1 : IntKind.i64.wrap (lastSlash f + 1) = lastSlash f + 1 := wrap_ok hll.1 (by omega)
    have kk1 : 0 ≤ IntKind.i64.wrap (lastSlash f + 1) := by rw [e1]; exact hll.1
    have kk2 : IntKind.i64.wrap (lastSlash f + 1) ≤ f.size := by rw [e1]; exact hll.2
    have kk3 : f.extract 0 (IntKind.i64.wrap (lastSlash f + 1)).toNat = dirOf f := by rw [e1]; rfl
    generalize cleanA (dirOf f ++ p) = q at *
    generalize lastSlash f = ls at *
    obtain ⟨q1, q2⟩ := q
    cases q2 <;> dsimp only [pathA] at c3 ⊢
    all_goals refine Spec.body (C := cx [] 22) fits (fn := Tryd.f14) Tryd.func14 rfl (by decide) (by decide) (gI ?_)
    all_goals repeat' (first | ((first | refine C_r ?_ | refine C0_r ?_ | refine O_r ?_ | refine R_r ?_); (conv => whnf); first | (refine ⟨fun hb => ?_, fun hb => ?_⟩ <;> try exact no_way) | refine A_o ?_ | refine B_o ?_ | refine C_o ?_ | refine R_o ?_ | refine fR ?_ | refine fRk ?_ | refine F_o ?_) | refine C_l (c1) ?_ | refine C_l (c2) ?_ | refine C_l (c3) ?_ | refine Kz_l ?_ (a := none) (b := some (IntKind.i64.wrap (ls + 1))) (r := dirOf f) (h0 := Int.le_refl 0) (h1 := kk1) (h2 := kk2) (hr := kk3) | refine SA_l ?_ | refine V_l ?_ | refine L_l ?_ | refine Q_l ?_ | refine X_l ?_ | refine Xa_l ?_ | refine Xs_l ?_ | refine K_l ?_ | refine Ka_l ?_ | refine Lk_l ?_ | refine Up_l ?_ | refine Del_l ?_ | refine St_l ?_ | refine LU_l ?_ | refine Xw_l ?_ | refine Le_l ?_ | refine Se_l ?_ | refine M_l ?_ | refine A_l ?_ | refine A0_l ?_ | refine A1_l ?_ | refine Mk_l ?_ | refine Kz_l ?_ | refine W_l ?_ | refine C_d (c1) ?_ | refine C_d (c2) ?_ | refine C_d (c3) ?_ | refine SA_d ?_ | refine V_d ?_ | refine L_d ?_ | refine Q_d ?_ | refine X_d ?_ | refine Xs_d ?_ | refine K_d ?_ | refine Ka_d ?_ | refine Lk_d ?_ | refine Up_d ?_ | refine A_d ?_ | refine A0_d ?_ | refine St_d ?_ | refine LU_d ?_ | refine Xw_d ?_ | refine Le_d ?_ | refine Se_d ?_ | refine M_d ?_ | refine Mk_d ?_ | refine N_d ?_ | refine Kz_d ?_ | refine W_d ?_ | fail)
    all_goals first | exact ⟨rfl, rfl⟩ | trace_state
theorem prefix_at (p : ByteArray) : Lib.hasPrefix p.data.toList [47] = true ↔ p.data.toList[0]? = some 47 := by
  unfold Lib.hasPrefix
  cases p.data.toList with
  | nil => simp
  | cons c r => simp [List.isPrefixOf]; exact eq_comm
theorem docJoinR [GVals] (f p : ByteArray) (hf : f.size < 2 ^ 31) (hp : p.size < 2 ^ 31 - 32) : Comp Tryd.prog 15 [str f, str p] (pathA (joinA f p)) := by
  have hz : p.data.toList.length = p.size := rfl
  have hd := dir_size f
  have hsz : (dirOf f ++ p).size = (dirOf f).size + p.size := ByteArray.size_append
  have c1 := cleanDocR p (by omega)
  have c2 := partsR f (by omega)
  have c3 := partsR p (by omega)
  have hpd := pieces_dir f p
  have c4 := refCleanS ((pieces f).dropLast ++ pieces p) (by rw [← hpd, wt_pieces]; omega)
  have hr := refV_A (dirOf f ++ p)
  rw [hpd] at hr
  rw [hr] at c4
  have hne : 0 < (pieces f).length := by
    unfold pieces
    rw [List.length_map]
    cases h : splitL f.data.toList with
    | nil => exact absurd h (split_ne _)
    | cons x r => simp
  have hlf := pieces_lt f (by omega)
  have hlp := pieces_lt p (by omega)
  unfold joinA
  cases hpre : Lib.hasPrefix p.data.toList [47] with
  | true =>
    have h0 := (prefix_at p).1 hpre
    have q1 : decide ((p.size : Int) > 0) = true := by
      have := (List.getElem?_eq_some_iff.1 h0).1
      rw [decide_eq_true_eq]; omega
    have hx : p.data.toList[((0 : Int)).toNat]? = some 47 := h0
    have q2 : (((47 : UInt8).toNat : Int) == 47) = true := by decide
    simp only [cond_true]
    clear c2 c3 c4 hr hpd
    generalize cleanA p = q at *
    obtain ⟨q1, q2⟩ := q
    cases q2 <;> dsimp only [pathA] at c1 ⊢
    all_goals refine Spec.body (C := cx [(26, false)] 33) fits (fn := Tryd.f15) Tryd.func15 rfl (by decide) (by decide) (gI ?_)
    all_goals repeat' (first | ((first | refine C_r ?_ | refine C0_r ?_ | refine O_r ?_ | refine R_r ?_); (conv => whnf); first | (refine ⟨fun hb => ?_, fun hb => ?_⟩ <;> try exact no_way) | refine A_o ?_ | refine B_o ?_ | refine C_o ?_ | refine R_o ?_ | refine fR ?_ | refine fRk ?_ | refine F_o ?_) | refine C_l (c1) ?_ | refine SA_l ?_ | refine V_l ?_ | refine L_l ?_ | refine Q_l ?_ | refine X_l ?_ | refine Xa_l ?_ | refine Xs_l ?_ | refine K_l ?_ | refine Ka_l ?_ | refine Lk_l ?_ | refine Up_l ?_ | refine Del_l ?_ | refine St_l ?_ | refine LU_l ?_ | refine Xw_l ?_ | refine Le_l ?_ | refine Se_l ?_ | refine M_l ?_ | refine A_l ?_ | refine A0_l ?_ | refine A1_l ?_ | refine Mk_l ?_ | refine Kz_l ?_ | refine W_l ?_ | refine C_d (c1) ?_ | refine SA_d ?_ | refine V_d ?_ | refine L_d ?_ | refine Q_d ?_ | refine X_d ?_ | refine Xs_d ?_ | refine K_d ?_ | refine Ka_d ?_ | refine Lk_d ?_ | refine Up_d ?_ | refine A_d ?_ | refine A0_d ?_ | refine St_d ?_ | refine LU_d ?_ | refine Xw_d ?_ | refine Le_d ?_ | refine Se_d ?_ | refine M_d ?_ | refine Mk_d ?_ | refine N_d ?_ | refine Kz_d ?_ | refine W_d ?_ | fail)
    all_goals first | exact ⟨rfl, rfl⟩ | trace_state
  | false =>
    simp only [cond_false]
    clear hr hpd c1
    have k2 := drop_rows (pieces f) hne (by omega)
    have k4 : 0 ≤ IntKind.i64.wrap ((((pieces f).map strrow).length : Int) - 1) := by rw [List.length_map, wrap_ok (by omega) (by omega)]; omega
    have k5 : IntKind.i64.wrap ((((pieces f).map strrow).length : Int) - 1) ≤ ((pieces f).map strrow).length := by rw [List.length_map, wrap_ok (by omega) (by omega)]; omega
    have hdl : (pieces f).dropLast.length < 2 ^ 34 := by rw [List.length_dropLast]; omega
    have hdp : ((pieces p).map strrow).length < 2 ^ 34 := by rw [List.length_map]; omega
    unfold lst at c4
    rw [List.map_append] at c4
    generalize cleanA (dirOf f ++ p) = q at *
    generalize pieces f = pf at *
    generalize pieces p = pp at *
    obtain ⟨q1, q2⟩ := q
    have hcase : (decide ((p.size : Int) > 0) = false) ∨ (decide ((p.size : Int) > 0) = true ∧ ∃ b : UInt8, p.data.toList[((0 : Int)).toNat]? = some b ∧ ((b.toNat : Int) == 47) = false) := by
      by_cases hps : p.size = 0
      · left; rw [decide_eq_false_iff_not]; omega
      · right
        refine ⟨by rw [decide_eq_true_eq]; omega, _, List.getElem?_eq_getElem (by rw [hz]; show 0 < p.size; omega), ?_⟩
        rw [beq_eq_false_iff_ne]
        intro e
        have h47 : p.data.toList[0]? = some 47 := by
          rw [List.getElem?_eq_getElem (by rw [hz]; omega)]
          exact congrArg some (UInt8.toNat_inj.1 (by show _ = 47; exact Int.ofNat.inj e))
        rw [(prefix_at p).2 h47] at hpre
        cases hpre
    rcases hcase with h1 | ⟨h1, b, h2, h3⟩
    all_goals cases q2 <;> dsimp only [pathA] at c4 ⊢
    all_goals refine Spec.body (C := cx [(26, false)] 33) fits (fn := Tryd.f15) Tryd.func15 rfl (by decide) (by decide) (gI ?_)
    all_goals repeat' (first | ((first | refine C_r ?_ | refine C0_r ?_ | refine O_r ?_ | refine R_r ?_); (conv => whnf); first | (refine ⟨fun hb => ?_, fun hb => ?_⟩ <;> try exact no_way) | refine A_o ?_ | refine B_o ?_ | refine C_o ?_ | refine R_o ?_ | refine fR ?_ | refine fRk ?_ | refine F_o ?_) | refine C_l (c2) ?_ | refine C_l (c3) ?_ | refine C_l (c4) ?_ | refine K_l ?_ (a := none) (b := some (IntKind.i64.wrap (((pf.map strrow).length : Int) - 1))) (rows' := pf.dropLast.map strrow) (h1 := Int.le_refl 0) (h2 := k4) (h3 := k5) (hr := k2) | refine SA_l ?_ | refine V_l ?_ | refine L_l ?_ | refine Q_l ?_ | refine X_l ?_ | refine Xa_l ?_ | refine Xs_l ?_ | refine K_l ?_ | refine Ka_l ?_ | refine Lk_l ?_ | refine Up_l ?_ | refine Del_l ?_ | refine St_l ?_ | refine LU_l ?_ | refine Xw_l ?_ | refine Le_l ?_ | refine Se_l ?_ | refine M_l ?_ | refine A_l ?_ | refine A0_l ?_ | refine A1_l ?_ | refine Mk_l ?_ | refine Kz_l ?_ | refine W_l ?_ | refine C_d (c2) ?_ | refine C_d (c3) ?_ | refine C_d (c4) ?_ | refine SA_d ?_ | refine V_d ?_ | refine L_d ?_ | refine Q_d ?_ | refine X_d ?_ | refine Xs_d ?_ | refine K_d ?_ | refine Ka_d ?_ | refine Lk_d ?_ | refine Up_d ?_ | refine A_d ?_ | refine A0_d ?_ | refine St_d ?_ | refine LU_d ?_ | refine Xw_d ?_ | refine Le_d ?_ | refine Se_d ?_ | refine M_d ?_ | refine Mk_d ?_ | refine N_d ?_ | refine Kz_d ?_ | refine W_d ?_ | fail)
    all_goals first | exact ⟨rfl, rfl⟩ | trace_state
end Go.Proofs.YtcmhpjnafkpofaaDoor
