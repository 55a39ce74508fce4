/- A part of a proof: functions of the program walked over the abstract machine, and what they compute. -/
import Derived.Test.YtjjhckmnnaafkaaDoorPWAo
set_option linter.unusedVariables false
set_option linter.unusedSimpArgs false
namespace Go.Proofs.YtjjhckmnnaafkaaDoor
open Go Go.Am Go.Proofs
attribute [local irreducible] W WL DL WO RoundEnd
set_option maxRecDepth 10000
set_option maxHeartbeats 4000000
/-- the first that is not so -/
def ixN {α : Type} (p : α → Bool) : List α → Int → Int
  | [], _ => -1
  | x :: r, j => if p x then ixN p r (j + 1) else j
theorem ixN_ge {α : Type} (p : α → Bool) : ∀ (l : List α) (j : Int), 0 ≤ j → (0 ≤ ixN p l j ↔ l.all p = false)
  | [], j, _ => by simp [ixN]
  | x :: r, j, h => by
    rw [ixN, List.all_cons]
    cases e : p x with
    | true => simp only [if_true, Bool.true_and]; exact ixN_ge p r (j + 1) (by omega)
    | false => simp [h]
theorem cloDefine (g : FuncId) (b : Bool) (x : Def) (hg : Comp Tryd.prog g [.agg ((Def.row x).map .d)] (bool b)) : Am.Spec Tryd.prog 39 [.agg ((Def.row x).map .d), .one (.ptr 0 0)] [.var [.fn (.func g) [] []]] (fun v s => v = bool (!b) ∧ s = [.var [.fn (.func g) [] []]]) := by
  obtain ⟨xn, ⟨xk, xo, xm, xu, xl⟩⟩ := x
  cases b
  · refine Spec.body (C := cx [] 8) fits (fn := Tryd.f39) Tryd.func39 rfl (by decide) (by decide) (gI ?_)
    refine ST (wc hg wz) ?_ <;> (repeat' (first | exact Wl.mk | refine wy1 ?_ ?_)) <;> repeat (intro hb; have hx := wy5 hb; clear hx)
    all_goals exact ⟨rfl, rfl⟩
  · refine Spec.body (C := cx [] 8) fits (fn := Tryd.f39) Tryd.func39 rfl (by decide) (by decide) (gI ?_)
    refine ST (wc hg wz) ?_ <;> (repeat' (first | exact Wl.mk | refine wy1 ?_ ?_)) <;> repeat (intro hb; have hx := wy5 hb; clear hx)
    all_goals exact ⟨rfl, rfl⟩
theorem ixDefine (g : FuncId) (p : Def → Bool) (l : List Def) (hl : l.length < 2 ^ 60) (hg : ∀ x ∈ l, Comp Tryd.prog g [.agg ((Def.row x).map .d)] (bool (p x))) : Am.Spec Tryd.prog 62 [lst Def.row l, .one (.fn (.func 39) [] [.ptr 0 0])] [.var [.fn (.func g) [] []]] (fun v s => v = int .i64 (ixN p l 0) ∧ s = [.var [.fn (.func g) [] []]]) := by
  generalize hfb : ixN p l 0 = fb
  refine Spec.body (C := cx [] 19) fits (fn := Tryd.f62) Tryd.func62 rfl (by decide) (by decide) (gI ?_)
  refine ST wz ?_ <;> (repeat' (first | exact Wl.mk | refine wy1 ?_ ?_)) <;> repeat (intro hb; have hx := wy5 hb; clear hx)
  refine wLoop [0, 1, 7, 8] 1 (l.length + 1) ?_
  refine (fun key => key l [] _ rfl rfl hfb.symm :
    (∀ (rest done : List Def) (j : Int), l = done ++ rest → j = done.length → fb = ixN p rest j →
    WR2 _ _ _ _ _ (rest.length + 1) [(0, lst Def.row l), (1, .one (.fn (.func 39) [] [.ptr 0 0])), (7, int .i64 (l.map Def.row).length), (8, int .i64 j)] [.var [.fn (.func g) [] []]]) → _) ?_
  intro rest
  induction rest with
  | nil =>
    intro done j h1 hj hr
    have hlen : l.length = done.length := by rw [h1]; simp
    refine wR (gI ?_)
    refine ST wz ?_ <;> (repeat' (first | exact Wl.mk | refine wy1 ?_ ?_)) <;> repeat (intro hb; have hx := wy5 hb; clear hx)
    exact ⟨by rw [hr]; rfl, rfl⟩
  | cons x rest ih =>
    intro done j h1 hj hr
    have hlen : l.length = done.length + (rest.length + 1) := by rw [h1]; simp
    have hc := cloDefine g (p x) x (hg x (by rw [h1]; simp))
    rw [ixN] at hr
    obtain ⟨xn, ⟨xk, xo, xm, xu, xl⟩⟩ := x
    cases hp : p (⟨xn, Ex.mk xk xo xm xu xl⟩) with
    | true =>
      rw [hp] at hc hr
      refine wR (gI ?_)
      repeat' (first | ((first | refine C_r ?_ | refine C0_r ?_ | refine O_r ?_ | refine R_r ?_); (conv => whnf); first | (refine ⟨fun hb => ?_, fun hb => ?_⟩ <;> try exact no_way) | refine A_o ?_ | refine B_o ?_ | refine C_o ?_ | refine R_o ?_ | refine fR ?_ | refine fRk ?_ | refine F_o ?_) | refine fun k => WL.crpU [0] [.var [.fn (.func g) [] []]] _ _ hc (oW ?_ _) | refine SA_l ?_ | refine V_l ?_ | refine L_l ?_ | refine Q_l ?_ | refine X_l ?_ | refine Xa_l ?_ | refine Xs_l ?_ | refine K_l ?_ | refine Ka_l ?_ | refine Lk_l ?_ | refine Up_l ?_ | refine Del_l ?_ | refine St_l ?_ | refine LU_l ?_ | refine Xw_l ?_ | refine Le_l ?_ | refine Se_l ?_ | refine M_l ?_ | refine A_l ?_ | refine A0_l ?_ | refine A1_l ?_ | refine Mk_l ?_ | refine Kz_l ?_ | refine W_l ?_ | fail)
      refine rE (ih (done ++ [⟨xn, Ex.mk xk xo xm xu xl⟩]) _ (by rw [h1]; simp) ?_ ?_)
      · rw [wrap_ok (by omega) (by omega)]; simp [hj]
      · rw [hr, wrap_ok (by omega) (by omega)]; rfl
    | false =>
      rw [hp] at hc hr
      refine wR (gI ?_)
      repeat' (first | ((first | refine C_r ?_ | refine C0_r ?_ | refine O_r ?_ | refine R_r ?_); (conv => whnf); first | (refine ⟨fun hb => ?_, fun hb => ?_⟩ <;> try exact no_way) | refine A_o ?_ | refine B_o ?_ | refine C_o ?_ | refine R_o ?_ | refine fR ?_ | refine fRk ?_ | refine F_o ?_) | refine fun k => WL.crpU [0] [.var [.fn (.func g) [] []]] _ _ hc (oW ?_ _) | refine SA_l ?_ | refine V_l ?_ | refine L_l ?_ | refine Q_l ?_ | refine X_l ?_ | refine Xa_l ?_ | refine Xs_l ?_ | refine K_l ?_ | refine Ka_l ?_ | refine Lk_l ?_ | refine Up_l ?_ | refine Del_l ?_ | refine St_l ?_ | refine LU_l ?_ | refine Xw_l ?_ | refine Le_l ?_ | refine Se_l ?_ | refine M_l ?_ | refine A_l ?_ | refine A0_l ?_ | refine A1_l ?_ | refine Mk_l ?_ | refine Kz_l ?_ | refine W_l ?_ | fail)
      exact ⟨by rw [hr]; rfl, rfl⟩
theorem conDefine (g : FuncId) (p : Def → Bool) (l : List Def) (hl : l.length < 2 ^ 60) (hg : ∀ x ∈ l, Comp Tryd.prog g [.agg ((Def.row x).map .d)] (bool (p x))) : Am.Spec Tryd.prog 38 [lst Def.row l, .one (.fn (.func 39) [] [.ptr 0 0])] [.var [.fn (.func g) [] []]] (fun v s => v = bool (!l.all p) ∧ s = [.var [.fn (.func g) [] []]]) := by
  have hc := ixDefine g p l hl hg
  have hge := ixN_ge p l 0 (by omega)
  refine Spec.body (C := cx [] 9) fits (fn := Tryd.f38) Tryd.func38 rfl (by decide) (by decide) (gI ?_)
  repeat' (first | ((first | refine C_r ?_ | refine C0_r ?_ | refine O_r ?_ | refine R_r ?_); (conv => whnf); first | (refine ⟨fun hb => ?_, fun hb => ?_⟩ <;> try exact no_way) | refine A_o ?_ | refine B_o ?_ | refine C_o ?_ | refine R_o ?_ | refine fR ?_ | refine fRk ?_ | refine F_o ?_) | refine fun k => WL.crpU [0] [.var [.fn (.func g) [] []]] _ _ hc (oW ?_ _) | refine SA_l ?_ | refine V_l ?_ | refine L_l ?_ | refine Q_l ?_ | refine X_l ?_ | refine Xa_l ?_ | refine Xs_l ?_ | refine K_l ?_ | refine Ka_l ?_ | refine Lk_l ?_ | refine Up_l ?_ | refine Del_l ?_ | refine St_l ?_ | refine LU_l ?_ | refine Xw_l ?_ | refine Le_l ?_ | refine Se_l ?_ | refine M_l ?_ | refine A_l ?_ | refine A0_l ?_ | refine A1_l ?_ | refine Mk_l ?_ | refine Kz_l ?_ | refine W_l ?_ | fail)
  · have h : l.all p = false := hge.1 (by simpa using hb)
    exact ⟨by rw [h]; rfl, rfl⟩
  · have h : l.all p = true := by
      cases h : l.all p with
      | true => rfl
      | false => have := hge.2 h; simp at hb; omega
    exact ⟨by rw [h]; rfl, rfl⟩
theorem allDefine (g : FuncId) (p : Def → Bool) (l : List Def) (hl : l.length < 2 ^ 60) (hg : ∀ x ∈ l, Comp Tryd.prog g [.agg ((Def.row x).map .d)] (bool (p x))) : Comp Tryd.prog 22 [lst Def.row l, .one (.fn (.func g) [] [])] (bool (l.all p)) := by
  have hc := conDefine g p l hl hg
  cases h : l.all p with
  | true =>
    rw [h] at hc
    refine Spec.body (C := cx [] 9) fits (fn := Tryd.f22) Tryd.func22 rfl (by decide) (by decide) (gI ?_)
    repeat' (first | ((first | refine C_r ?_ | refine C0_r ?_ | refine O_r ?_ | refine R_r ?_); (conv => whnf); first | (refine ⟨fun hb => ?_, fun hb => ?_⟩ <;> try exact no_way) | refine A_o ?_ | refine B_o ?_ | refine C_o ?_ | refine R_o ?_ | refine fR ?_ | refine fRk ?_ | refine F_o ?_) | refine fun k => WL.crpU [0] [.var [.fn (.func g) [] []]] _ _ hc (oW ?_ _) | refine SA_l ?_ | refine V_l ?_ | refine L_l ?_ | refine Q_l ?_ | refine X_l ?_ | refine Xa_l ?_ | refine Xs_l ?_ | refine K_l ?_ | refine Ka_l ?_ | refine Lk_l ?_ | refine Up_l ?_ | refine Del_l ?_ | refine St_l ?_ | refine LU_l ?_ | refine Xw_l ?_ | refine Le_l ?_ | refine Se_l ?_ | refine M_l ?_ | refine A_l ?_ | refine A0_l ?_ | refine A1_l ?_ | refine Mk_l ?_ | refine Kz_l ?_ | refine W_l ?_ | fail)
    exact ⟨rfl, rfl⟩
  | false =>
    rw [h] at hc
    refine Spec.body (C := cx [] 9) fits (fn := Tryd.f22) Tryd.func22 rfl (by decide) (by decide) (gI ?_)
    repeat' (first | ((first | refine C_r ?_ | refine C0_r ?_ | refine O_r ?_ | refine R_r ?_); (conv => whnf); first | (refine ⟨fun hb => ?_, fun hb => ?_⟩ <;> try exact no_way) | refine A_o ?_ | refine B_o ?_ | refine C_o ?_ | refine R_o ?_ | refine fR ?_ | refine fRk ?_ | refine F_o ?_) | refine fun k => WL.crpU [0] [.var [.fn (.func g) [] []]] _ _ hc (oW ?_ _) | refine SA_l ?_ | refine V_l ?_ | refine L_l ?_ | refine Q_l ?_ | refine X_l ?_ | refine Xa_l ?_ | refine Xs_l ?_ | refine K_l ?_ | refine Ka_l ?_ | refine Lk_l ?_ | refine Up_l ?_ | refine Del_l ?_ | refine St_l ?_ | refine LU_l ?_ | refine Xw_l ?_ | refine Le_l ?_ | refine Se_l ?_ | refine M_l ?_ | refine A_l ?_ | refine A0_l ?_ | refine A1_l ?_ | refine Mk_l ?_ | refine Kz_l ?_ | refine W_l ?_ | fail)
    exact ⟨rfl, rfl⟩
theorem cloPolicy (g : FuncId) (b : Bool) (x : Pol) (hg : Comp Tryd.prog g [.agg ((Pol.row x).map .d)] (bool b)) : Am.Spec Tryd.prog 45 [.agg ((Pol.row x).map .d), .one (.ptr 0 0)] [.var [.fn (.func g) [] []]] (fun v s => v = bool (!b) ∧ s = [.var [.fn (.func g) [] []]]) := by
  obtain ⟨xn, xp⟩ := x
  cases b
  · refine Spec.body (C := cx [] 8) fits (fn := Tryd.f45) Tryd.func45 rfl (by decide) (by decide) (gI ?_)
    refine ST (wc hg wz) ?_ <;> (repeat' (first | exact Wl.mk | refine wy1 ?_ ?_)) <;> repeat (intro hb; have hx := wy5 hb; clear hx)
    all_goals exact ⟨rfl, rfl⟩
  · refine Spec.body (C := cx [] 8) fits (fn := Tryd.f45) Tryd.func45 rfl (by decide) (by decide) (gI ?_)
    refine ST (wc hg wz) ?_ <;> (repeat' (first | exact Wl.mk | refine wy1 ?_ ?_)) <;> repeat (intro hb; have hx := wy5 hb; clear hx)
    all_goals exact ⟨rfl, rfl⟩
theorem ixPolicy (g : FuncId) (p : Pol → Bool) (l : List Pol) (hl : l.length < 2 ^ 60) (hg : ∀ x ∈ l, Comp Tryd.prog g [.agg ((Pol.row x).map .d)] (bool (p x))) : Am.Spec Tryd.prog 68 [lst Pol.row l, .one (.fn (.func 45) [] [.ptr 0 0])] [.var [.fn (.func g) [] []]] (fun v s => v = int .i64 (ixN p l 0) ∧ s = [.var [.fn (.func g) [] []]]) := by
  generalize hfb : ixN p l 0 = fb
  refine Spec.body (C := cx [] 19) fits (fn := Tryd.f68) Tryd.func68 rfl (by decide) (by decide) (gI ?_)
  refine ST wz ?_ <;> (repeat' (first | exact Wl.mk | refine wy1 ?_ ?_)) <;> repeat (intro hb; have hx := wy5 hb; clear hx)
  refine wLoop [0, 1, 7, 8] 1 (l.length + 1) ?_
  refine (fun key => key l [] _ rfl rfl hfb.symm :
    (∀ (rest done : List Pol) (j : Int), l = done ++ rest → j = done.length → fb = ixN p rest j →
    WR2 _ _ _ _ _ (rest.length + 1) [(0, lst Pol.row l), (1, .one (.fn (.func 45) [] [.ptr 0 0])), (7, int .i64 (l.map Pol.row).length), (8, int .i64 j)] [.var [.fn (.func g) [] []]]) → _) ?_
  intro rest
  induction rest with
  | nil =>
    intro done j h1 hj hr
    have hlen : l.length = done.length := by rw [h1]; simp
    refine wR (gI ?_)
    refine ST wz ?_ <;> (repeat' (first | exact Wl.mk | refine wy1 ?_ ?_)) <;> repeat (intro hb; have hx := wy5 hb; clear hx)
    exact ⟨by rw [hr]; rfl, rfl⟩
  | cons x rest ih =>
    intro done j h1 hj hr
    have hlen : l.length = done.length + (rest.length + 1) := by rw [h1]; simp
    have hc := cloPolicy g (p x) x (hg x (by rw [h1]; simp))
    rw [ixN] at hr
    obtain ⟨xn, xp⟩ := x
    cases hp : p (⟨xn, xp⟩) with
    | true =>
      rw [hp] at hc hr
      refine wR (gI ?_)
      repeat' (first | ((first | refine C_r ?_ | refine C0_r ?_ | refine O_r ?_ | refine R_r ?_); (conv => whnf); first | (refine ⟨fun hb => ?_, fun hb => ?_⟩ <;> try exact no_way) | refine A_o ?_ | refine B_o ?_ | refine C_o ?_ | refine R_o ?_ | refine fR ?_ | refine fRk ?_ | refine F_o ?_) | refine fun k => WL.crpU [0] [.var [.fn (.func g) [] []]] _ _ hc (oW ?_ _) | refine SA_l ?_ | refine V_l ?_ | refine L_l ?_ | refine Q_l ?_ | refine X_l ?_ | refine Xa_l ?_ | refine Xs_l ?_ | refine K_l ?_ | refine Ka_l ?_ | refine Lk_l ?_ | refine Up_l ?_ | refine Del_l ?_ | refine St_l ?_ | refine LU_l ?_ | refine Xw_l ?_ | refine Le_l ?_ | refine Se_l ?_ | refine M_l ?_ | refine A_l ?_ | refine A0_l ?_ | refine A1_l ?_ | refine Mk_l ?_ | refine Kz_l ?_ | refine W_l ?_ | fail)
      refine rE (ih (done ++ [⟨xn, xp⟩]) _ (by rw [h1]; simp) ?_ ?_)
      · rw [wrap_ok (by omega) (by omega)]; simp [hj]
      · rw [hr, wrap_ok (by omega) (by omega)]; rfl
    | false =>
      rw [hp] at hc hr
      refine wR (gI ?_)
      repeat' (first | ((first | refine C_r ?_ | refine C0_r ?_ | refine O_r ?_ | refine R_r ?_); (conv => whnf); first | (refine ⟨fun hb => ?_, fun hb => ?_⟩ <;> try exact no_way) | refine A_o ?_ | refine B_o ?_ | refine C_o ?_ | refine R_o ?_ | refine fR ?_ | refine fRk ?_ | refine F_o ?_) | refine fun k => WL.crpU [0] [.var [.fn (.func g) [] []]] _ _ hc (oW ?_ _) | refine SA_l ?_ | refine V_l ?_ | refine L_l ?_ | refine Q_l ?_ | refine X_l ?_ | refine Xa_l ?_ | refine Xs_l ?_ | refine K_l ?_ | refine Ka_l ?_ | refine Lk_l ?_ | refine Up_l ?_ | refine Del_l ?_ | refine St_l ?_ | refine LU_l ?_ | refine Xw_l ?_ | refine Le_l ?_ | refine Se_l ?_ | refine M_l ?_ | refine A_l ?_ | refine A0_l ?_ | refine A1_l ?_ | refine Mk_l ?_ | refine Kz_l ?_ | refine W_l ?_ | fail)
      exact ⟨by rw [hr]; rfl, rfl⟩
theorem conPolicy (g : FuncId) (p : Pol → Bool) (l : List Pol) (hl : l.length < 2 ^ 60) (hg : ∀ x ∈ l, Comp Tryd.prog g [.agg ((Pol.row x).map .d)] (bool (p x))) : Am.Spec Tryd.prog 44 [lst Pol.row l, .one (.fn (.func 45) [] [.ptr 0 0])] [.var [.fn (.func g) [] []]] (fun v s => v = bool (!l.all p) ∧ s = [.var [.fn (.func g) [] []]]) := by
  have hc := ixPolicy g p l hl hg
  have hge := ixN_ge p l 0 (by omega)
  refine Spec.body (C := cx [] 9) fits (fn := Tryd.f44) Tryd.func44 rfl (by decide) (by decide) (gI ?_)
  repeat' (first | ((first | refine C_r ?_ | refine C0_r ?_ | refine O_r ?_ | refine R_r ?_); (conv => whnf); first | (refine ⟨fun hb => ?_, fun hb => ?_⟩ <;> try exact no_way) | refine A_o ?_ | refine B_o ?_ | refine C_o ?_ | refine R_o ?_ | refine fR ?_ | refine fRk ?_ | refine F_o ?_) | refine fun k => WL.crpU [0] [.var [.fn (.func g) [] []]] _ _ hc (oW ?_ _) | refine SA_l ?_ | refine V_l ?_ | refine L_l ?_ | refine Q_l ?_ | refine X_l ?_ | refine Xa_l ?_ | refine Xs_l ?_ | refine K_l ?_ | refine Ka_l ?_ | refine Lk_l ?_ | refine Up_l ?_ | refine Del_l ?_ | refine St_l ?_ | refine LU_l ?_ | refine Xw_l ?_ | refine Le_l ?_ | refine Se_l ?_ | refine M_l ?_ | refine A_l ?_ | refine A0_l ?_ | refine A1_l ?_ | refine Mk_l ?_ | refine Kz_l ?_ | refine W_l ?_ | fail)
  · have h : l.all p = false := hge.1 (by simpa using hb)
    exact ⟨by rw [h]; rfl, rfl⟩
  · have h : l.all p = true := by
      cases h : l.all p with
      | true => rfl
      | false => have := hge.2 h; simp at hb; omega
    exact ⟨by rw [h]; rfl, rfl⟩
theorem allPolicy (g : FuncId) (p : Pol → Bool) (l : List Pol) (hl : l.length < 2 ^ 60) (hg : ∀ x ∈ l, Comp Tryd.prog g [.agg ((Pol.row x).map .d)] (bool (p x))) : Comp Tryd.prog 26 [lst Pol.row l, .one (.fn (.func g) [] [])] (bool (l.all p)) := by
  have hc := conPolicy g p l hl hg
  cases h : l.all p with
  | true =>
    rw [h] at hc
    refine Spec.body (C := cx [] 9) fits (fn := Tryd.f26) Tryd.func26 rfl (by decide) (by decide) (gI ?_)
    repeat' (first | ((first | refine C_r ?_ | refine C0_r ?_ | refine O_r ?_ | refine R_r ?_); (conv => whnf); first | (refine ⟨fun hb => ?_, fun hb => ?_⟩ <;> try exact no_way) | refine A_o ?_ | refine B_o ?_ | refine C_o ?_ | refine R_o ?_ | refine fR ?_ | refine fRk ?_ | refine F_o ?_) | refine fun k => WL.crpU [0] [.var [.fn (.func g) [] []]] _ _ hc (oW ?_ _) | refine SA_l ?_ | refine V_l ?_ | refine L_l ?_ | refine Q_l ?_ | refine X_l ?_ | refine Xa_l ?_ | refine Xs_l ?_ | refine K_l ?_ | refine Ka_l ?_ | refine Lk_l ?_ | refine Up_l ?_ | refine Del_l ?_ | refine St_l ?_ | refine LU_l ?_ | refine Xw_l ?_ | refine Le_l ?_ | refine Se_l ?_ | refine M_l ?_ | refine A_l ?_ | refine A0_l ?_ | refine A1_l ?_ | refine Mk_l ?_ | refine Kz_l ?_ | refine W_l ?_ | fail)
    exact ⟨rfl, rfl⟩
  | false =>
    rw [h] at hc
    refine Spec.body (C := cx [] 9) fits (fn := Tryd.f26) Tryd.func26 rfl (by decide) (by decide) (gI ?_)
    repeat' (first | ((first | refine C_r ?_ | refine C0_r ?_ | refine O_r ?_ | refine R_r ?_); (conv => whnf); first | (refine ⟨fun hb => ?_, fun hb => ?_⟩ <;> try exact no_way) | refine A_o ?_ | refine B_o ?_ | refine C_o ?_ | refine R_o ?_ | refine fR ?_ | refine fRk ?_ | refine F_o ?_) | refine fun k => WL.crpU [0] [.var [.fn (.func g) [] []]] _ _ hc (oW ?_ _) | refine SA_l ?_ | refine V_l ?_ | refine L_l ?_ | refine Q_l ?_ | refine X_l ?_ | refine Xa_l ?_ | refine Xs_l ?_ | refine K_l ?_ | refine Ka_l ?_ | refine Lk_l ?_ | refine Up_l ?_ | refine Del_l ?_ | refine St_l ?_ | refine LU_l ?_ | refine Xw_l ?_ | refine Le_l ?_ | refine Se_l ?_ | refine M_l ?_ | refine A_l ?_ | refine A0_l ?_ | refine A1_l ?_ | refine Mk_l ?_ | refine Kz_l ?_ | refine W_l ?_ | fail)
    exact ⟨rfl, rfl⟩
theorem cloPart (g : FuncId) (b : Bool) (x : Part) (hg : Comp Tryd.prog g [.agg ((Part.row x).map .d)] (bool b)) : Am.Spec Tryd.prog 47 [.agg ((Part.row x).map .d), .one (.ptr 0 0)] [.var [.fn (.func g) [] []]] (fun v s => v = bool (!b) ∧ s = [.var [.fn (.func g) [] []]]) := by
  obtain ⟨xu, ⟨xk, xd⟩, xr⟩ := x
  cases b
  · refine Spec.body (C := cx [] 8) fits (fn := Tryd.f47) Tryd.func47 rfl (by decide) (by decide) (gI ?_)
    refine ST (wc hg wz) ?_ <;> (repeat' (first | exact Wl.mk | refine wy1 ?_ ?_)) <;> repeat (intro hb; have hx := wy5 hb; clear hx)
    all_goals exact ⟨rfl, rfl⟩
  · refine Spec.body (C := cx [] 8) fits (fn := Tryd.f47) Tryd.func47 rfl (by decide) (by decide) (gI ?_)
    refine ST (wc hg wz) ?_ <;> (repeat' (first | exact Wl.mk | refine wy1 ?_ ?_)) <;> repeat (intro hb; have hx := wy5 hb; clear hx)
    all_goals exact ⟨rfl, rfl⟩
theorem ixPart (g : FuncId) (p : Part → Bool) (l : List Part) (hl : l.length < 2 ^ 60) (hg : ∀ x ∈ l, Comp Tryd.prog g [.agg ((Part.row x).map .d)] (bool (p x))) : Am.Spec Tryd.prog 69 [lst Part.row l, .one (.fn (.func 47) [] [.ptr 0 0])] [.var [.fn (.func g) [] []]] (fun v s => v = int .i64 (ixN p l 0) ∧ s = [.var [.fn (.func g) [] []]]) := by
  generalize hfb : ixN p l 0 = fb
  refine Spec.body (C := cx [] 19) fits (fn := Tryd.f69) Tryd.func69 rfl (by decide) (by decide) (gI ?_)
  refine ST wz ?_ <;> (repeat' (first | exact Wl.mk | refine wy1 ?_ ?_)) <;> repeat (intro hb; have hx := wy5 hb; clear hx)
  refine wLoop [0, 1, 7, 8] 1 (l.length + 1) ?_
  refine (fun key => key l [] _ rfl rfl hfb.symm :
    (∀ (rest done : List Part) (j : Int), l = done ++ rest → j = done.length → fb = ixN p rest j →
    WR2 _ _ _ _ _ (rest.length + 1) [(0, lst Part.row l), (1, .one (.fn (.func 47) [] [.ptr 0 0])), (7, int .i64 (l.map Part.row).length), (8, int .i64 j)] [.var [.fn (.func g) [] []]]) → _) ?_
  intro rest
  induction rest with
  | nil =>
    intro done j h1 hj hr
    have hlen : l.length = done.length := by rw [h1]; simp
    refine wR (gI ?_)
    refine ST wz ?_ <;> (repeat' (first | exact Wl.mk | refine wy1 ?_ ?_)) <;> repeat (intro hb; have hx := wy5 hb; clear hx)
    exact ⟨by rw [hr]; rfl, rfl⟩
  | cons x rest ih =>
    intro done j h1 hj hr
    have hlen : l.length = done.length + (rest.length + 1) := by rw [h1]; simp
    have hc := cloPart g (p x) x (hg x (by rw [h1]; simp))
    rw [ixN] at hr
    obtain ⟨xu, ⟨xk, xd⟩, xr⟩ := x
    cases hp : p (⟨xu, ⟨xk, xd⟩, xr⟩) with
    | true =>
      rw [hp] at hc hr
      refine wR (gI ?_)
      repeat' (first | ((first | refine C_r ?_ | refine C0_r ?_ | refine O_r ?_ | refine R_r ?_); (conv => whnf); first | (refine ⟨fun hb => ?_, fun hb => ?_⟩ <;> try exact no_way) | refine A_o ?_ | refine B_o ?_ | refine C_o ?_ | refine R_o ?_ | refine fR ?_ | refine fRk ?_ | refine F_o ?_) | refine fun k => WL.crpU [0] [.var [.fn (.func g) [] []]] _ _ hc (oW ?_ _) | refine SA_l ?_ | refine V_l ?_ | refine L_l ?_ | refine Q_l ?_ | refine X_l ?_ | refine Xa_l ?_ | refine Xs_l ?_ | refine K_l ?_ | refine Ka_l ?_ | refine Lk_l ?_ | refine Up_l ?_ | refine Del_l ?_ | refine St_l ?_ | refine LU_l ?_ | refine Xw_l ?_ | refine Le_l ?_ | refine Se_l ?_ | refine M_l ?_ | refine A_l ?_ | refine A0_l ?_ | refine A1_l ?_ | refine Mk_l ?_ | refine Kz_l ?_ | refine W_l ?_ | fail)
      refine rE (ih (done ++ [⟨xu, ⟨xk, xd⟩, xr⟩]) _ (by rw [h1]; simp) ?_ ?_)
      · rw [wrap_ok (by omega) (by omega)]; simp [hj]
      · rw [hr, wrap_ok (by omega) (by omega)]; rfl
    | false =>
      rw [hp] at hc hr
      refine wR (gI ?_)
      repeat' (first | ((first | refine C_r ?_ | refine C0_r ?_ | refine O_r ?_ | refine R_r ?_); (conv => whnf); first | (refine ⟨fun hb => ?_, fun hb => ?_⟩ <;> try exact no_way) | refine A_o ?_ | refine B_o ?_ | refine C_o ?_ | refine R_o ?_ | refine fR ?_ | refine fRk ?_ | refine F_o ?_) | refine fun k => WL.crpU [0] [.var [.fn (.func g) [] []]] _ _ hc (oW ?_ _) | refine SA_l ?_ | refine V_l ?_ | refine L_l ?_ | refine Q_l ?_ | refine X_l ?_ | refine Xa_l ?_ | refine Xs_l ?_ | refine K_l ?_ | refine Ka_l ?_ | refine Lk_l ?_ | refine Up_l ?_ | refine Del_l ?_ | refine St_l ?_ | refine LU_l ?_ | refine Xw_l ?_ | refine Le_l ?_ | refine Se_l ?_ | refine M_l ?_ | refine A_l ?_ | refine A0_l ?_ | refine A1_l ?_ | refine Mk_l ?_ | refine Kz_l ?_ | refine W_l ?_ | fail)
      exact ⟨by rw [hr]; rfl, rfl⟩
theorem conPart (g : FuncId) (p : Part → Bool) (l : List Part) (hl : l.length < 2 ^ 60) (hg : ∀ x ∈ l, Comp Tryd.prog g [.agg ((Part.row x).map .d)] (bool (p x))) : Am.Spec Tryd.prog 46 [lst Part.row l, .one (.fn (.func 47) [] [.ptr 0 0])] [.var [.fn (.func g) [] []]] (fun v s => v = bool (!l.all p) ∧ s = [.var [.fn (.func g) [] []]]) := by
  have hc := ixPart g p l hl hg
  have hge := ixN_ge p l 0 (by omega)
  refine Spec.body (C := cx [] 9) fits (fn := Tryd.f46) Tryd.func46 rfl (by decide) (by decide) (gI ?_)
  repeat' (first | ((first | refine C_r ?_ | refine C0_r ?_ | refine O_r ?_ | refine R_r ?_); (conv => whnf); first | (refine ⟨fun hb => ?_, fun hb => ?_⟩ <;> try exact no_way) | refine A_o ?_ | refine B_o ?_ | refine C_o ?_ | refine R_o ?_ | refine fR ?_ | refine fRk ?_ | refine F_o ?_) | refine fun k => WL.crpU [0] [.var [.fn (.func g) [] []]] _ _ hc (oW ?_ _) | refine SA_l ?_ | refine V_l ?_ | refine L_l ?_ | refine Q_l ?_ | refine X_l ?_ | refine Xa_l ?_ | refine Xs_l ?_ | refine K_l ?_ | refine Ka_l ?_ | refine Lk_l ?_ | refine Up_l ?_ | refine Del_l ?_ | refine St_l ?_ | refine LU_l ?_ | refine Xw_l ?_ | refine Le_l ?_ | refine Se_l ?_ | refine M_l ?_ | refine A_l ?_ | refine A0_l ?_ | refine A1_l ?_ | refine Mk_l ?_ | refine Kz_l ?_ | refine W_l ?_ | fail)
  · have h : l.all p = false := hge.1 (by simpa using hb)
    exact ⟨by rw [h]; rfl, rfl⟩
  · have h : l.all p = true := by
      cases h : l.all p with
      | true => rfl
      | false => have := hge.2 h; simp at hb; omega
    exact ⟨by rw [h]; rfl, rfl⟩
theorem allPart (g : FuncId) (p : Part → Bool) (l : List Part) (hl : l.length < 2 ^ 60) (hg : ∀ x ∈ l, Comp Tryd.prog g [.agg ((Part.row x).map .d)] (bool (p x))) : Comp Tryd.prog 28 [lst Part.row l, .one (.fn (.func g) [] [])] (bool (l.all p)) := by
  have hc := conPart g p l hl hg
  cases h : l.all p with
  | true =>
    rw [h] at hc
    refine Spec.body (C := cx [] 9) fits (fn := Tryd.f28) Tryd.func28 rfl (by decide) (by decide) (gI ?_)
    repeat' (first | ((first | refine C_r ?_ | refine C0_r ?_ | refine O_r ?_ | refine R_r ?_); (conv => whnf); first | (refine ⟨fun hb => ?_, fun hb => ?_⟩ <;> try exact no_way) | refine A_o ?_ | refine B_o ?_ | refine C_o ?_ | refine R_o ?_ | refine fR ?_ | refine fRk ?_ | refine F_o ?_) | refine fun k => WL.crpU [0] [.var [.fn (.func g) [] []]] _ _ hc (oW ?_ _) | refine SA_l ?_ | refine V_l ?_ | refine L_l ?_ | refine Q_l ?_ | refine X_l ?_ | refine Xa_l ?_ | refine Xs_l ?_ | refine K_l ?_ | refine Ka_l ?_ | refine Lk_l ?_ | refine Up_l ?_ | refine Del_l ?_ | refine St_l ?_ | refine LU_l ?_ | refine Xw_l ?_ | refine Le_l ?_ | refine Se_l ?_ | refine M_l ?_ | refine A_l ?_ | refine A0_l ?_ | refine A1_l ?_ | refine Mk_l ?_ | refine Kz_l ?_ | refine W_l ?_ | fail)
    exact ⟨rfl, rfl⟩
  | false =>
    rw [h] at hc
    refine Spec.body (C := cx [] 9) fits (fn := Tryd.f28) Tryd.func28 rfl (by decide) (by decide) (gI ?_)
    repeat' (first | ((first | refine C_r ?_ | refine C0_r ?_ | refine O_r ?_ | refine R_r ?_); (conv => whnf); first | (refine ⟨fun hb => ?_, fun hb => ?_⟩ <;> try exact no_way) | refine A_o ?_ | refine B_o ?_ | refine C_o ?_ | refine R_o ?_ | refine fR ?_ | refine fRk ?_ | refine F_o ?_) | refine fun k => WL.crpU [0] [.var [.fn (.func g) [] []]] _ _ hc (oW ?_ _) | refine SA_l ?_ | refine V_l ?_ | refine L_l ?_ | refine Q_l ?_ | refine X_l ?_ | refine Xa_l ?_ | refine Xs_l ?_ | refine K_l ?_ | refine Ka_l ?_ | refine Lk_l ?_ | refine Up_l ?_ | refine Del_l ?_ | refine St_l ?_ | refine LU_l ?_ | refine Xw_l ?_ | refine Le_l ?_ | refine Se_l ?_ | refine M_l ?_ | refine A_l ?_ | refine A0_l ?_ | refine A1_l ?_ | refine Mk_l ?_ | refine Kz_l ?_ | refine W_l ?_ | fail)
    exact ⟨rfl, rfl⟩
theorem cloRule (g : FuncId) (b : Bool) (x : Rule) (hg : Comp Tryd.prog g [.agg ((Rule.row x).map .d)] (bool b)) : Am.Spec Tryd.prog 71 [.agg ((Rule.row x).map .d), .one (.ptr 0 0)] [.var [.fn (.func g) [] []]] (fun v s => v = bool (!b) ∧ s = [.var [.fn (.func g) [] []]]) := by
  obtain ⟨xc, xp, xq⟩ := x
  cases b
  · refine Spec.body (C := cx [] 8) fits (fn := Tryd.f71) Tryd.func71 rfl (by decide) (by decide) (gI ?_)
    refine ST (wc hg wz) ?_ <;> (repeat' (first | exact Wl.mk | refine wy1 ?_ ?_)) <;> repeat (intro hb; have hx := wy5 hb; clear hx)
    all_goals exact ⟨rfl, rfl⟩
  · refine Spec.body (C := cx [] 8) fits (fn := Tryd.f71) Tryd.func71 rfl (by decide) (by decide) (gI ?_)
    refine ST (wc hg wz) ?_ <;> (repeat' (first | exact Wl.mk | refine wy1 ?_ ?_)) <;> repeat (intro hb; have hx := wy5 hb; clear hx)
    all_goals exact ⟨rfl, rfl⟩
theorem ixRule (g : FuncId) (p : Rule → Bool) (l : List Rule) (hl : l.length < 2 ^ 60) (hg : ∀ x ∈ l, Comp Tryd.prog g [.agg ((Rule.row x).map .d)] (bool (p x))) : Am.Spec Tryd.prog 84 [lst Rule.row l, .one (.fn (.func 71) [] [.ptr 0 0])] [.var [.fn (.func g) [] []]] (fun v s => v = int .i64 (ixN p l 0) ∧ s = [.var [.fn (.func g) [] []]]) := by
  generalize hfb : ixN p l 0 = fb
  refine Spec.body (C := cx [] 19) fits (fn := Tryd.f84) Tryd.func84 rfl (by decide) (by decide) (gI ?_)
  refine ST wz ?_ <;> (repeat' (first | exact Wl.mk | refine wy1 ?_ ?_)) <;> repeat (intro hb; have hx := wy5 hb; clear hx)
  refine wLoop [0, 1, 7, 8] 1 (l.length + 1) ?_
  refine (fun key => key l [] _ rfl rfl hfb.symm :
    (∀ (rest done : List Rule) (j : Int), l = done ++ rest → j = done.length → fb = ixN p rest j →
    WR2 _ _ _ _ _ (rest.length + 1) [(0, lst Rule.row l), (1, .one (.fn (.func 71) [] [.ptr 0 0])), (7, int .i64 (l.map Rule.row).length), (8, int .i64 j)] [.var [.fn (.func g) [] []]]) → _) ?_
  intro rest
  induction rest with
  | nil =>
    intro done j h1 hj hr
    have hlen : l.length = done.length := by rw [h1]; simp
    refine wR (gI ?_)
    refine ST wz ?_ <;> (repeat' (first | exact Wl.mk | refine wy1 ?_ ?_)) <;> repeat (intro hb; have hx := wy5 hb; clear hx)
    exact ⟨by rw [hr]; rfl, rfl⟩
  | cons x rest ih =>
    intro done j h1 hj hr
    have hlen : l.length = done.length + (rest.length + 1) := by rw [h1]; simp
    have hc := cloRule g (p x) x (hg x (by rw [h1]; simp))
    rw [ixN] at hr
    obtain ⟨xc, xp, xq⟩ := x
    cases hp : p (⟨xc, xp, xq⟩) with
    | true =>
      rw [hp] at hc hr
      refine wR (gI ?_)
      repeat' (first | ((first | refine C_r ?_ | refine C0_r ?_ | refine O_r ?_ | refine R_r ?_); (conv => whnf); first | (refine ⟨fun hb => ?_, fun hb => ?_⟩ <;> try exact no_way) | refine A_o ?_ | refine B_o ?_ | refine C_o ?_ | refine R_o ?_ | refine fR ?_ | refine fRk ?_ | refine F_o ?_) | refine fun k => WL.crpU [0] [.var [.fn (.func g) [] []]] _ _ hc (oW ?_ _) | refine SA_l ?_ | refine V_l ?_ | refine L_l ?_ | refine Q_l ?_ | refine X_l ?_ | refine Xa_l ?_ | refine Xs_l ?_ | refine K_l ?_ | refine Ka_l ?_ | refine Lk_l ?_ | refine Up_l ?_ | refine Del_l ?_ | refine St_l ?_ | refine LU_l ?_ | refine Xw_l ?_ | refine Le_l ?_ | refine Se_l ?_ | refine M_l ?_ | refine A_l ?_ | refine A0_l ?_ | refine A1_l ?_ | refine Mk_l ?_ | refine Kz_l ?_ | refine W_l ?_ | fail)
      refine rE (ih (done ++ [⟨xc, xp, xq⟩]) _ (by rw [h1]; simp) ?_ ?_)
      · rw [wrap_ok (by omega) (by omega)]; simp [hj]
      · rw [hr, wrap_ok (by omega) (by omega)]; rfl
    | false =>
      rw [hp] at hc hr
      refine wR (gI ?_)
      repeat' (first | ((first | refine C_r ?_ | refine C0_r ?_ | refine O_r ?_ | refine R_r ?_); (conv => whnf); first | (refine ⟨fun hb => ?_, fun hb => ?_⟩ <;> try exact no_way) | refine A_o ?_ | refine B_o ?_ | refine C_o ?_ | refine R_o ?_ | refine fR ?_ | refine fRk ?_ | refine F_o ?_) | refine fun k => WL.crpU [0] [.var [.fn (.func g) [] []]] _ _ hc (oW ?_ _) | refine SA_l ?_ | refine V_l ?_ | refine L_l ?_ | refine Q_l ?_ | refine X_l ?_ | refine Xa_l ?_ | refine Xs_l ?_ | refine K_l ?_ | refine Ka_l ?_ | refine Lk_l ?_ | refine Up_l ?_ | refine Del_l ?_ | refine St_l ?_ | refine LU_l ?_ | refine Xw_l ?_ | refine Le_l ?_ | refine Se_l ?_ | refine M_l ?_ | refine A_l ?_ | refine A0_l ?_ | refine A1_l ?_ | refine Mk_l ?_ | refine Kz_l ?_ | refine W_l ?_ | fail)
      exact ⟨by rw [hr]; rfl, rfl⟩
theorem conRule (g : FuncId) (p : Rule → Bool) (l : List Rule) (hl : l.length < 2 ^ 60) (hg : ∀ x ∈ l, Comp Tryd.prog g [.agg ((Rule.row x).map .d)] (bool (p x))) : Am.Spec Tryd.prog 70 [lst Rule.row l, .one (.fn (.func 71) [] [.ptr 0 0])] [.var [.fn (.func g) [] []]] (fun v s => v = bool (!l.all p) ∧ s = [.var [.fn (.func g) [] []]]) := by
  have hc := ixRule g p l hl hg
  have hge := ixN_ge p l 0 (by omega)
  refine Spec.body (C := cx [] 9) fits (fn := Tryd.f70) Tryd.func70 rfl (by decide) (by decide) (gI ?_)
  repeat' (first | ((first | refine C_r ?_ | refine C0_r ?_ | refine O_r ?_ | refine R_r ?_); (conv => whnf); first | (refine ⟨fun hb => ?_, fun hb => ?_⟩ <;> try exact no_way) | refine A_o ?_ | refine B_o ?_ | refine C_o ?_ | refine R_o ?_ | refine fR ?_ | refine fRk ?_ | refine F_o ?_) | refine fun k => WL.crpU [0] [.var [.fn (.func g) [] []]] _ _ hc (oW ?_ _) | refine SA_l ?_ | refine V_l ?_ | refine L_l ?_ | refine Q_l ?_ | refine X_l ?_ | refine Xa_l ?_ | refine Xs_l ?_ | refine K_l ?_ | refine Ka_l ?_ | refine Lk_l ?_ | refine Up_l ?_ | refine Del_l ?_ | refine St_l ?_ | refine LU_l ?_ | refine Xw_l ?_ | refine Le_l ?_ | refine Se_l ?_ | refine M_l ?_ | refine A_l ?_ | refine A0_l ?_ | refine A1_l ?_ | refine Mk_l ?_ | refine Kz_l ?_ | refine W_l ?_ | fail)
  · have h : l.all p = false := hge.1 (by simpa using hb)
    exact ⟨by rw [h]; rfl, rfl⟩
  · have h : l.all p = true := by
      cases h : l.all p with
      | true => rfl
      | false => have := hge.2 h; simp at hb; omega
    exact ⟨by rw [h]; rfl, rfl⟩
theorem allRule (g : FuncId) (p : Rule → Bool) (l : List Rule) (hl : l.length < 2 ^ 60) (hg : ∀ x ∈ l, Comp Tryd.prog g [.agg ((Rule.row x).map .d)] (bool (p x))) : Comp Tryd.prog 48 [lst Rule.row l, .one (.fn (.func g) [] [])] (bool (l.all p)) := by
  have hc := conRule g p l hl hg
  cases h : l.all p with
  | true =>
    rw [h] at hc
    refine Spec.body (C := cx [] 9) fits (fn := Tryd.f48) Tryd.func48 rfl (by decide) (by decide) (gI ?_)
    repeat' (first | ((first | refine C_r ?_ | refine C0_r ?_ | refine O_r ?_ | refine R_r ?_); (conv => whnf); first | (refine ⟨fun hb => ?_, fun hb => ?_⟩ <;> try exact no_way) | refine A_o ?_ | refine B_o ?_ | refine C_o ?_ | refine R_o ?_ | refine fR ?_ | refine fRk ?_ | refine F_o ?_) | refine fun k => WL.crpU [0] [.var [.fn (.func g) [] []]] _ _ hc (oW ?_ _) | refine SA_l ?_ | refine V_l ?_ | refine L_l ?_ | refine Q_l ?_ | refine X_l ?_ | refine Xa_l ?_ | refine Xs_l ?_ | refine K_l ?_ | refine Ka_l ?_ | refine Lk_l ?_ | refine Up_l ?_ | refine Del_l ?_ | refine St_l ?_ | refine LU_l ?_ | refine Xw_l ?_ | refine Le_l ?_ | refine Se_l ?_ | refine M_l ?_ | refine A_l ?_ | refine A0_l ?_ | refine A1_l ?_ | refine Mk_l ?_ | refine Kz_l ?_ | refine W_l ?_ | fail)
    exact ⟨rfl, rfl⟩
  | false =>
    rw [h] at hc
    refine Spec.body (C := cx [] 9) fits (fn := Tryd.f48) Tryd.func48 rfl (by decide) (by decide) (gI ?_)
    repeat' (first | ((first | refine C_r ?_ | refine C0_r ?_ | refine O_r ?_ | refine R_r ?_); (conv => whnf); first | (refine ⟨fun hb => ?_, fun hb => ?_⟩ <;> try exact no_way) | refine A_o ?_ | refine B_o ?_ | refine C_o ?_ | refine R_o ?_ | refine fR ?_ | refine fRk ?_ | refine F_o ?_) | refine fun k => WL.crpU [0] [.var [.fn (.func g) [] []]] _ _ hc (oW ?_ _) | refine SA_l ?_ | refine V_l ?_ | refine L_l ?_ | refine Q_l ?_ | refine X_l ?_ | refine Xa_l ?_ | refine Xs_l ?_ | refine K_l ?_ | refine Ka_l ?_ | refine Lk_l ?_ | refine Up_l ?_ | refine Del_l ?_ | refine St_l ?_ | refine LU_l ?_ | refine Xw_l ?_ | refine Le_l ?_ | refine Se_l ?_ | refine M_l ?_ | refine A_l ?_ | refine A0_l ?_ | refine A1_l ?_ | refine Mk_l ?_ | refine Kz_l ?_ | refine W_l ?_ | fail)
    exact ⟨rfl, rfl⟩
theorem cloExpr (g : FuncId) (b : Bool) (x : Ex) (hg : Comp Tryd.prog g [.agg ((Ex.row x).map .d)] (bool b)) : Am.Spec Tryd.prog 86 [.agg ((Ex.row x).map .d), .one (.ptr 0 0)] [.var [.fn (.func g) [] []]] (fun v s => v = bool (!b) ∧ s = [.var [.fn (.func g) [] []]]) := by
  obtain ⟨xk, xo, xm, xu, xl⟩ := x
  cases b
  · refine Spec.body (C := cx [] 8) fits (fn := Tryd.f86) Tryd.func86 rfl (by decide) (by decide) (gI ?_)
    refine ST (wc hg wz) ?_ <;> (repeat' (first | exact Wl.mk | refine wy1 ?_ ?_)) <;> repeat (intro hb; have hx := wy5 hb; clear hx)
    all_goals exact ⟨rfl, rfl⟩
  · refine Spec.body (C := cx [] 8) fits (fn := Tryd.f86) Tryd.func86 rfl (by decide) (by decide) (gI ?_)
    refine ST (wc hg wz) ?_ <;> (repeat' (first | exact Wl.mk | refine wy1 ?_ ?_)) <;> repeat (intro hb; have hx := wy5 hb; clear hx)
    all_goals exact ⟨rfl, rfl⟩
theorem ixExpr (g : FuncId) (p : Ex → Bool) (l : List Ex) (hl : l.length < 2 ^ 60) (hg : ∀ x ∈ l, Comp Tryd.prog g [.agg ((Ex.row x).map .d)] (bool (p x))) : Am.Spec Tryd.prog 91 [lst Ex.row l, .one (.fn (.func 86) [] [.ptr 0 0])] [.var [.fn (.func g) [] []]] (fun v s => v = int .i64 (ixN p l 0) ∧ s = [.var [.fn (.func g) [] []]]) := by
  generalize hfb : ixN p l 0 = fb
  refine Spec.body (C := cx [] 19) fits (fn := Tryd.f91) Tryd.func91 rfl (by decide) (by decide) (gI ?_)
  refine ST wz ?_ <;> (repeat' (first | exact Wl.mk | refine wy1 ?_ ?_)) <;> repeat (intro hb; have hx := wy5 hb; clear hx)
  refine wLoop [0, 1, 7, 8] 1 (l.length + 1) ?_
  refine (fun key => key l [] _ rfl rfl hfb.symm :
    (∀ (rest done : List Ex) (j : Int), l = done ++ rest → j = done.length → fb = ixN p rest j →
    WR2 _ _ _ _ _ (rest.length + 1) [(0, lst Ex.row l), (1, .one (.fn (.func 86) [] [.ptr 0 0])), (7, int .i64 (l.map Ex.row).length), (8, int .i64 j)] [.var [.fn (.func g) [] []]]) → _) ?_
  intro rest
  induction rest with
  | nil =>
    intro done j h1 hj hr
    have hlen : l.length = done.length := by rw [h1]; simp
    refine wR (gI ?_)
    refine ST wz ?_ <;> (repeat' (first | exact Wl.mk | refine wy1 ?_ ?_)) <;> repeat (intro hb; have hx := wy5 hb; clear hx)
    exact ⟨by rw [hr]; rfl, rfl⟩
  | cons x rest ih =>
    intro done j h1 hj hr
    have hlen : l.length = done.length + (rest.length + 1) := by rw [h1]; simp
    have hc := cloExpr g (p x) x (hg x (by rw [h1]; simp))
    rw [ixN] at hr
    obtain ⟨xk, xo, xm, xu, xl⟩ := x
    cases hp : p (Ex.mk xk xo xm xu xl) with
    | true =>
      rw [hp] at hc hr
      refine wR (gI ?_)
      repeat' (first | ((first | refine C_r ?_ | refine C0_r ?_ | refine O_r ?_ | refine R_r ?_); (conv => whnf); first | (refine ⟨fun hb => ?_, fun hb => ?_⟩ <;> try exact no_way) | refine A_o ?_ | refine B_o ?_ | refine C_o ?_ | refine R_o ?_ | refine fR ?_ | refine fRk ?_ | refine F_o ?_) | refine fun k => WL.crpU [0] [.var [.fn (.func g) [] []]] _ _ hc (oW ?_ _) | refine SA_l ?_ | refine V_l ?_ | refine L_l ?_ | refine Q_l ?_ | refine X_l ?_ | refine Xa_l ?_ | refine Xs_l ?_ | refine K_l ?_ | refine Ka_l ?_ | refine Lk_l ?_ | refine Up_l ?_ | refine Del_l ?_ | refine St_l ?_ | refine LU_l ?_ | refine Xw_l ?_ | refine Le_l ?_ | refine Se_l ?_ | refine M_l ?_ | refine A_l ?_ | refine A0_l ?_ | refine A1_l ?_ | refine Mk_l ?_ | refine Kz_l ?_ | refine W_l ?_ | fail)
      refine rE (ih (done ++ [Ex.mk xk xo xm xu xl]) _ (by rw [h1]; simp) ?_ ?_)
      · rw [wrap_ok (by omega) (by omega)]; simp [hj]
      · rw [hr, wrap_ok (by omega) (by omega)]; rfl
    | false =>
      rw [hp] at hc hr
      refine wR (gI ?_)
      repeat' (first | ((first | refine C_r ?_ | refine C0_r ?_ | refine O_r ?_ | refine R_r ?_); (conv => whnf); first | (refine ⟨fun hb => ?_, fun hb => ?_⟩ <;> try exact no_way) | refine A_o ?_ | refine B_o ?_ | refine C_o ?_ | refine R_o ?_ | refine fR ?_ | refine fRk ?_ | refine F_o ?_) | refine fun k => WL.crpU [0] [.var [.fn (.func g) [] []]] _ _ hc (oW ?_ _) | refine SA_l ?_ | refine V_l ?_ | refine L_l ?_ | refine Q_l ?_ | refine X_l ?_ | refine Xa_l ?_ | refine Xs_l ?_ | refine K_l ?_ | refine Ka_l ?_ | refine Lk_l ?_ | refine Up_l ?_ | refine Del_l ?_ | refine St_l ?_ | refine LU_l ?_ | refine Xw_l ?_ | refine Le_l ?_ | refine Se_l ?_ | refine M_l ?_ | refine A_l ?_ | refine A0_l ?_ | refine A1_l ?_ | refine Mk_l ?_ | refine Kz_l ?_ | refine W_l ?_ | fail)
      exact ⟨by rw [hr]; rfl, rfl⟩
theorem conExpr (g : FuncId) (p : Ex → Bool) (l : List Ex) (hl : l.length < 2 ^ 60) (hg : ∀ x ∈ l, Comp Tryd.prog g [.agg ((Ex.row x).map .d)] (bool (p x))) : Am.Spec Tryd.prog 85 [lst Ex.row l, .one (.fn (.func 86) [] [.ptr 0 0])] [.var [.fn (.func g) [] []]] (fun v s => v = bool (!l.all p) ∧ s = [.var [.fn (.func g) [] []]]) := by
  have hc := ixExpr g p l hl hg
  have hge := ixN_ge p l 0 (by omega)
  refine Spec.body (C := cx [] 9) fits (fn := Tryd.f85) Tryd.func85 rfl (by decide) (by decide) (gI ?_)
  repeat' (first | ((first | refine C_r ?_ | refine C0_r ?_ | refine O_r ?_ | refine R_r ?_); (conv => whnf); first | (refine ⟨fun hb => ?_, fun hb => ?_⟩ <;> try exact no_way) | refine A_o ?_ | refine B_o ?_ | refine C_o ?_ | refine R_o ?_ | refine fR ?_ | refine fRk ?_ | refine F_o ?_) | refine fun k => WL.crpU [0] [.var [.fn (.func g) [] []]] _ _ hc (oW ?_ _) | refine SA_l ?_ | refine V_l ?_ | refine L_l ?_ | refine Q_l ?_ | refine X_l ?_ | refine Xa_l ?_ | refine Xs_l ?_ | refine K_l ?_ | refine Ka_l ?_ | refine Lk_l ?_ | refine Up_l ?_ | refine Del_l ?_ | refine St_l ?_ | refine LU_l ?_ | refine Xw_l ?_ | refine Le_l ?_ | refine Se_l ?_ | refine M_l ?_ | refine A_l ?_ | refine A0_l ?_ | refine A1_l ?_ | refine Mk_l ?_ | refine Kz_l ?_ | refine W_l ?_ | fail)
  · have h : l.all p = false := hge.1 (by simpa using hb)
    exact ⟨by rw [h]; rfl, rfl⟩
  · have h : l.all p = true := by
      cases h : l.all p with
      | true => rfl
      | false => have := hge.2 h; simp at hb; omega
    exact ⟨by rw [h]; rfl, rfl⟩
theorem allExpr (g : FuncId) (p : Ex → Bool) (l : List Ex) (hl : l.length < 2 ^ 60) (hg : ∀ x ∈ l, Comp Tryd.prog g [.agg ((Ex.row x).map .d)] (bool (p x))) : Comp Tryd.prog 72 [lst Ex.row l, .one (.fn (.func g) [] [])] (bool (l.all p)) := by
  have hc := conExpr g p l hl hg
  cases h : l.all p with
  | true =>
    rw [h] at hc
    refine Spec.body (C := cx [] 9) fits (fn := Tryd.f72) Tryd.func72 rfl (by decide) (by decide) (gI ?_)
    repeat' (first | ((first | refine C_r ?_ | refine C0_r ?_ | refine O_r ?_ | refine R_r ?_); (conv => whnf); first | (refine ⟨fun hb => ?_, fun hb => ?_⟩ <;> try exact no_way) | refine A_o ?_ | refine B_o ?_ | refine C_o ?_ | refine R_o ?_ | refine fR ?_ | refine fRk ?_ | refine F_o ?_) | refine fun k => WL.crpU [0] [.var [.fn (.func g) [] []]] _ _ hc (oW ?_ _) | refine SA_l ?_ | refine V_l ?_ | refine L_l ?_ | refine Q_l ?_ | refine X_l ?_ | refine Xa_l ?_ | refine Xs_l ?_ | refine K_l ?_ | refine Ka_l ?_ | refine Lk_l ?_ | refine Up_l ?_ | refine Del_l ?_ | refine St_l ?_ | refine LU_l ?_ | refine Xw_l ?_ | refine Le_l ?_ | refine Se_l ?_ | refine M_l ?_ | refine A_l ?_ | refine A0_l ?_ | refine A1_l ?_ | refine Mk_l ?_ | refine Kz_l ?_ | refine W_l ?_ | fail)
    exact ⟨rfl, rfl⟩
  | false =>
    rw [h] at hc
    refine Spec.body (C := cx [] 9) fits (fn := Tryd.f72) Tryd.func72 rfl (by decide) (by decide) (gI ?_)
    repeat' (first | ((first | refine C_r ?_ | refine C0_r ?_ | refine O_r ?_ | refine R_r ?_); (conv => whnf); first | (refine ⟨fun hb => ?_, fun hb => ?_⟩ <;> try exact no_way) | refine A_o ?_ | refine B_o ?_ | refine C_o ?_ | refine R_o ?_ | refine fR ?_ | refine fRk ?_ | refine F_o ?_) | refine fun k => WL.crpU [0] [.var [.fn (.func g) [] []]] _ _ hc (oW ?_ _) | refine SA_l ?_ | refine V_l ?_ | refine L_l ?_ | refine Q_l ?_ | refine X_l ?_ | refine Xa_l ?_ | refine Xs_l ?_ | refine K_l ?_ | refine Ka_l ?_ | refine Lk_l ?_ | refine Up_l ?_ | refine Del_l ?_ | refine St_l ?_ | refine LU_l ?_ | refine Xw_l ?_ | refine Le_l ?_ | refine Se_l ?_ | refine M_l ?_ | refine A_l ?_ | refine A0_l ?_ | refine A1_l ?_ | refine Mk_l ?_ | refine Kz_l ?_ | refine W_l ?_ | fail)
    exact ⟨rfl, rfl⟩
theorem cloStr (g : FuncId) (b : Bool) (x : ByteArray) (hg : Comp Tryd.prog g [str x] (bool b)) : Am.Spec Tryd.prog 51 [str x, .one (.ptr 0 0)] [.var [.fn (.func g) [] []]] (fun v s => v = bool (!b) ∧ s = [.var [.fn (.func g) [] []]]) := by
  cases b
  · refine Spec.body (C := cx [] 8) fits (fn := Tryd.f51) Tryd.func51 rfl (by decide) (by decide) (gI ?_)
    refine ST (wc hg wz) ?_ <;> (repeat' (first | exact Wl.mk | refine wy1 ?_ ?_)) <;> repeat (intro hb; have hx := wy5 hb; clear hx)
    all_goals exact ⟨rfl, rfl⟩
  · refine Spec.body (C := cx [] 8) fits (fn := Tryd.f51) Tryd.func51 rfl (by decide) (by decide) (gI ?_)
    refine ST (wc hg wz) ?_ <;> (repeat' (first | exact Wl.mk | refine wy1 ?_ ?_)) <;> repeat (intro hb; have hx := wy5 hb; clear hx)
    all_goals exact ⟨rfl, rfl⟩
theorem ixStr (g : FuncId) (p : ByteArray → Bool) (l : List ByteArray) (hl : l.length < 2 ^ 60) (hg : ∀ x ∈ l, Comp Tryd.prog g [str x] (bool (p x))) : Am.Spec Tryd.prog 76 [lst strow l, .one (.fn (.func 51) [] [.ptr 0 0])] [.var [.fn (.func g) [] []]] (fun v s => v = int .i64 (ixN p l 0) ∧ s = [.var [.fn (.func g) [] []]]) := by
  generalize hfb : ixN p l 0 = fb
  refine Spec.body (C := cx [] 19) fits (fn := Tryd.f76) Tryd.func76 rfl (by decide) (by decide) (gI ?_)
  refine ST wz ?_ <;> (repeat' (first | exact Wl.mk | refine wy1 ?_ ?_)) <;> repeat (intro hb; have hx := wy5 hb; clear hx)
  refine wLoop [0, 1, 7, 8] 1 (l.length + 1) ?_
  refine (fun key => key l [] _ rfl rfl hfb.symm :
    (∀ (rest done : List ByteArray) (j : Int), l = done ++ rest → j = done.length → fb = ixN p rest j →
    WR2 _ _ _ _ _ (rest.length + 1) [(0, lst strow l), (1, .one (.fn (.func 51) [] [.ptr 0 0])), (7, int .i64 (l.map strow).length), (8, int .i64 j)] [.var [.fn (.func g) [] []]]) → _) ?_
  intro rest
  induction rest with
  | nil =>
    intro done j h1 hj hr
    have hlen : l.length = done.length := by rw [h1]; simp
    refine wR (gI ?_)
    refine ST wz ?_ <;> (repeat' (first | exact Wl.mk | refine wy1 ?_ ?_)) <;> repeat (intro hb; have hx := wy5 hb; clear hx)
    exact ⟨by rw [hr]; rfl, rfl⟩
  | cons x rest ih =>
    intro done j h1 hj hr
    have hlen : l.length = done.length + (rest.length + 1) := by rw [h1]; simp
    have hc := cloStr g (p x) x (hg x (by rw [h1]; simp))
    rw [ixN] at hr
    cases hp : p (x) with
    | true =>
      rw [hp] at hc hr
      refine wR (gI ?_)
      repeat' (first | ((first | refine C_r ?_ | refine C0_r ?_ | refine O_r ?_ | refine R_r ?_); (conv => whnf); first | (refine ⟨fun hb => ?_, fun hb => ?_⟩ <;> try exact no_way) | refine A_o ?_ | refine B_o ?_ | refine C_o ?_ | refine R_o ?_ | refine fR ?_ | refine fRk ?_ | refine F_o ?_) | refine fun k => WL.crpU [0] [.var [.fn (.func g) [] []]] _ _ hc (oW ?_ _) | refine SA_l ?_ | refine V_l ?_ | refine L_l ?_ | refine Q_l ?_ | refine X_l ?_ | refine Xa_l ?_ | refine Xs_l ?_ | refine K_l ?_ | refine Ka_l ?_ | refine Lk_l ?_ | refine Up_l ?_ | refine Del_l ?_ | refine St_l ?_ | refine LU_l ?_ | refine Xw_l ?_ | refine Le_l ?_ | refine Se_l ?_ | refine M_l ?_ | refine A_l ?_ | refine A0_l ?_ | refine A1_l ?_ | refine Mk_l ?_ | refine Kz_l ?_ | refine W_l ?_ | fail)
      refine rE (ih (done ++ [x]) _ (by rw [h1]; simp) ?_ ?_)
      · rw [wrap_ok (by omega) (by omega)]; simp [hj]
      · rw [hr, wrap_ok (by omega) (by omega)]; rfl
    | false =>
      rw [hp] at hc hr
      refine wR (gI ?_)
      repeat' (first | ((first | refine C_r ?_ | refine C0_r ?_ | refine O_r ?_ | refine R_r ?_); (conv => whnf); first | (refine ⟨fun hb => ?_, fun hb => ?_⟩ <;> try exact no_way) | refine A_o ?_ | refine B_o ?_ | refine C_o ?_ | refine R_o ?_ | refine fR ?_ | refine fRk ?_ | refine F_o ?_) | refine fun k => WL.crpU [0] [.var [.fn (.func g) [] []]] _ _ hc (oW ?_ _) | refine SA_l ?_ | refine V_l ?_ | refine L_l ?_ | refine Q_l ?_ | refine X_l ?_ | refine Xa_l ?_ | refine Xs_l ?_ | refine K_l ?_ | refine Ka_l ?_ | refine Lk_l ?_ | refine Up_l ?_ | refine Del_l ?_ | refine St_l ?_ | refine LU_l ?_ | refine Xw_l ?_ | refine Le_l ?_ | refine Se_l ?_ | refine M_l ?_ | refine A_l ?_ | refine A0_l ?_ | refine A1_l ?_ | refine Mk_l ?_ | refine Kz_l ?_ | refine W_l ?_ | fail)
      exact ⟨by rw [hr]; rfl, rfl⟩
theorem conStr (g : FuncId) (p : ByteArray → Bool) (l : List ByteArray) (hl : l.length < 2 ^ 60) (hg : ∀ x ∈ l, Comp Tryd.prog g [str x] (bool (p x))) : Am.Spec Tryd.prog 50 [lst strow l, .one (.fn (.func 51) [] [.ptr 0 0])] [.var [.fn (.func g) [] []]] (fun v s => v = bool (!l.all p) ∧ s = [.var [.fn (.func g) [] []]]) := by
  have hc := ixStr g p l hl hg
  have hge := ixN_ge p l 0 (by omega)
  refine Spec.body (C := cx [] 9) fits (fn := Tryd.f50) Tryd.func50 rfl (by decide) (by decide) (gI ?_)
  repeat' (first | ((first | refine C_r ?_ | refine C0_r ?_ | refine O_r ?_ | refine R_r ?_); (conv => whnf); first | (refine ⟨fun hb => ?_, fun hb => ?_⟩ <;> try exact no_way) | refine A_o ?_ | refine B_o ?_ | refine C_o ?_ | refine R_o ?_ | refine fR ?_ | refine fRk ?_ | refine F_o ?_) | refine fun k => WL.crpU [0] [.var [.fn (.func g) [] []]] _ _ hc (oW ?_ _) | refine SA_l ?_ | refine V_l ?_ | refine L_l ?_ | refine Q_l ?_ | refine X_l ?_ | refine Xa_l ?_ | refine Xs_l ?_ | refine K_l ?_ | refine Ka_l ?_ | refine Lk_l ?_ | refine Up_l ?_ | refine Del_l ?_ | refine St_l ?_ | refine LU_l ?_ | refine Xw_l ?_ | refine Le_l ?_ | refine Se_l ?_ | refine M_l ?_ | refine A_l ?_ | refine A0_l ?_ | refine A1_l ?_ | refine Mk_l ?_ | refine Kz_l ?_ | refine W_l ?_ | fail)
  · have h : l.all p = false := hge.1 (by simpa using hb)
    exact ⟨by rw [h]; rfl, rfl⟩
  · have h : l.all p = true := by
      cases h : l.all p with
      | true => rfl
      | false => have := hge.2 h; simp at hb; omega
    exact ⟨by rw [h]; rfl, rfl⟩
theorem allStr (g : FuncId) (p : ByteArray → Bool) (l : List ByteArray) (hl : l.length < 2 ^ 60) (hg : ∀ x ∈ l, Comp Tryd.prog g [str x] (bool (p x))) : Comp Tryd.prog 30 [lst strow l, .one (.fn (.func g) [] [])] (bool (l.all p)) := by
  have hc := conStr g p l hl hg
  cases h : l.all p with
  | true =>
    rw [h] at hc
    refine Spec.body (C := cx [] 9) fits (fn := Tryd.f30) Tryd.func30 rfl (by decide) (by decide) (gI ?_)
    repeat' (first | ((first | refine C_r ?_ | refine C0_r ?_ | refine O_r ?_ | refine R_r ?_); (conv => whnf); first | (refine ⟨fun hb => ?_, fun hb => ?_⟩ <;> try exact no_way) | refine A_o ?_ | refine B_o ?_ | refine C_o ?_ | refine R_o ?_ | refine fR ?_ | refine fRk ?_ | refine F_o ?_) | refine fun k => WL.crpU [0] [.var [.fn (.func g) [] []]] _ _ hc (oW ?_ _) | refine SA_l ?_ | refine V_l ?_ | refine L_l ?_ | refine Q_l ?_ | refine X_l ?_ | refine Xa_l ?_ | refine Xs_l ?_ | refine K_l ?_ | refine Ka_l ?_ | refine Lk_l ?_ | refine Up_l ?_ | refine Del_l ?_ | refine St_l ?_ | refine LU_l ?_ | refine Xw_l ?_ | refine Le_l ?_ | refine Se_l ?_ | refine M_l ?_ | refine A_l ?_ | refine A0_l ?_ | refine A1_l ?_ | refine Mk_l ?_ | refine Kz_l ?_ | refine W_l ?_ | fail)
    exact ⟨rfl, rfl⟩
  | false =>
    rw [h] at hc
    refine Spec.body (C := cx [] 9) fits (fn := Tryd.f30) Tryd.func30 rfl (by decide) (by decide) (gI ?_)
    repeat' (first | ((first | refine C_r ?_ | refine C0_r ?_ | refine O_r ?_ | refine R_r ?_); (conv => whnf); first | (refine ⟨fun hb => ?_, fun hb => ?_⟩ <;> try exact no_way) | refine A_o ?_ | refine B_o ?_ | refine C_o ?_ | refine R_o ?_ | refine fR ?_ | refine fRk ?_ | refine F_o ?_) | refine fun k => WL.crpU [0] [.var [.fn (.func g) [] []]] _ _ hc (oW ?_ _) | refine SA_l ?_ | refine V_l ?_ | refine L_l ?_ | refine Q_l ?_ | refine X_l ?_ | refine Xa_l ?_ | refine Xs_l ?_ | refine K_l ?_ | refine Ka_l ?_ | refine Lk_l ?_ | refine Up_l ?_ | refine Del_l ?_ | refine St_l ?_ | refine LU_l ?_ | refine Xw_l ?_ | refine Le_l ?_ | refine Se_l ?_ | refine M_l ?_ | refine A_l ?_ | refine A0_l ?_ | refine A1_l ?_ | refine Mk_l ?_ | refine Kz_l ?_ | refine W_l ?_ | fail)
    exact ⟨rfl, rfl⟩
end Go.Proofs.YtjjhckmnnaafkaaDoor
namespace Go.Proofs.YtjjhckmnnaafkaaDoor
open Go Go.Am Go.Proofs
attribute [local irreducible] W WL DL WO RoundEnd
set_option maxRecDepth 10000
set_option maxHeartbeats 4000000
def topF (k : Int) : Int := if k = 3 ∨ k = 4 ∨ k = 5 then 65535 else 0
def plainF (k : Int) : Int × Bool :=
  if k = 1 then (2147483648, true) else if k = 2 then (0, true) else if k = 3 then (196608, true) else if k = 4 then (327680, true) else if k = 5 then (2146435072, true) else if k = 6 then (2147221504, true) else if k = 7 then (2147418112, true) else (0, false)
def valF (a : Act) : Int × Bool :=
  if (plainF a.kind).2 = false ∨ a.data < 0 ∨ a.data > topF a.kind then (0, false) else (IntKind.wrap .u32 ((plainF a.kind).1 + IntKind.wrap .u32 a.data), true)
theorem plainR (k : Int) : Comp Tryd.prog 77 [int .i64 k] (.tup [.one (.d (.sc (.int .u32 (plainF k).1))), .one (.d (.sc (.bool (plainF k).2)))]) := by
  by_cases h1 : k = 1
  · subst h1; refine Spec.body (C := cx [] 19) fits (fn := Tryd.f77) Tryd.func77 rfl (by decide) (by decide) (gI ?_)
    refine ST wz ?_ <;> (repeat' (first | exact Wl.mk | refine wy1 ?_ ?_)) <;> repeat (intro hb; have hx := wy5 hb; clear hx)
    exact ⟨rfl, rfl⟩
  by_cases h2 : k = 2
  · subst h2; refine Spec.body (C := cx [] 19) fits (fn := Tryd.f77) Tryd.func77 rfl (by decide) (by decide) (gI ?_)
    refine ST wz ?_ <;> (repeat' (first | exact Wl.mk | refine wy1 ?_ ?_)) <;> repeat (intro hb; have hx := wy5 hb; clear hx)
    exact ⟨rfl, rfl⟩
  by_cases h3 : k = 3
  · subst h3; refine Spec.body (C := cx [] 19) fits (fn := Tryd.f77) Tryd.func77 rfl (by decide) (by decide) (gI ?_)
    refine ST wz ?_ <;> (repeat' (first | exact Wl.mk | refine wy1 ?_ ?_)) <;> repeat (intro hb; have hx := wy5 hb; clear hx)
    exact ⟨rfl, rfl⟩
  by_cases h4 : k = 4
  · subst h4; refine Spec.body (C := cx [] 19) fits (fn := Tryd.f77) Tryd.func77 rfl (by decide) (by decide) (gI ?_)
    refine ST wz ?_ <;> (repeat' (first | exact Wl.mk | refine wy1 ?_ ?_)) <;> repeat (intro hb; have hx := wy5 hb; clear hx)
    exact ⟨rfl, rfl⟩
  by_cases h5 : k = 5
  · subst h5; refine Spec.body (C := cx [] 19) fits (fn := Tryd.f77) Tryd.func77 rfl (by decide) (by decide) (gI ?_)
    refine ST wz ?_ <;> (repeat' (first | exact Wl.mk | refine wy1 ?_ ?_)) <;> repeat (intro hb; have hx := wy5 hb; clear hx)
    exact ⟨rfl, rfl⟩
  by_cases h6 : k = 6
  · subst h6; refine Spec.body (C := cx [] 19) fits (fn := Tryd.f77) Tryd.func77 rfl (by decide) (by decide) (gI ?_)
    refine ST wz ?_ <;> (repeat' (first | exact Wl.mk | refine wy1 ?_ ?_)) <;> repeat (intro hb; have hx := wy5 hb; clear hx)
    exact ⟨rfl, rfl⟩
  by_cases h7 : k = 7
  · subst h7; refine Spec.body (C := cx [] 19) fits (fn := Tryd.f77) Tryd.func77 rfl (by decide) (by decide) (gI ?_)
    refine ST wz ?_ <;> (repeat' (first | exact Wl.mk | refine wy1 ?_ ?_)) <;> repeat (intro hb; have hx := wy5 hb; clear hx)
    exact ⟨rfl, rfl⟩
  have b1 : (k == 1) = false := by simp [h1]
  have b2 : (k == 2) = false := by simp [h2]
  have b3 : (k == 3) = false := by simp [h3]
  have b4 : (k == 4) = false := by simp [h4]
  have b5 : (k == 5) = false := by simp [h5]
  have b6 : (k == 6) = false := by simp [h6]
  have b7 : (k == 7) = false := by simp [h7]
  have e : plainF k = (0, false) := by simp [plainF, h1, h2, h3, h4, h5, h6, h7]
  rw [e]
  refine Spec.body (C := cx [] 19) fits (fn := Tryd.f77) Tryd.func77 rfl (by decide) (by decide) (gI ?_)
  refine ST wz ?_ <;> (repeat' (first | exact Wl.mk | refine wy1 ?_ ?_)) <;> repeat (intro hb; have hx := wy5 hb; clear hx)
  exact ⟨rfl, rfl⟩
theorem valueR (a : Act) : Comp Tryd.prog 52 [.agg (a.row.map .d)] (.tup [.one (.d (.sc (.int .u32 (valF a).1))), .one (.d (.sc (.bool (valF a).2)))]) := by
  obtain ⟨kd, d⟩ := a
  have c1 := plainR kd
  generalize hfb : valF ⟨kd, d⟩ = fb
  simp only [valF] at hfb
  by_cases h3 : kd = 3 ∨ kd = 4 ∨ kd = 5
  · have ht : topF kd = 65535 := if_pos h3
    rw [ht] at hfb
    rcases h3 with rfl | rfl | rfl
    all_goals
      refine Spec.body (C := cx [] 44) fits (fn := Tryd.f52) Tryd.func52 rfl (by decide) (by decide) (gI ?_)
      refine ST (wc c1 wz) ?_ <;> (repeat' (first | exact Wl.mk | refine wy1 ?_ ?_)) <;> repeat (intro hb; have hx := wy5 hb; clear hx)
      all_goals first
        | (rw [if_pos (by first | (right; left; simpa using hb) | (right; right; simpa using hb) | (left; rfl))] at hfb; subst hfb; exact ⟨rfl, rfl⟩)
        | (rw [if_neg (by
            have a : decide (d < 0) = false := by assumption
            simp at a hb
            simp [plainF]
            omega)] at hfb; subst hfb; exact ⟨rfl, rfl⟩)
        | trace_state
  · have ht : topF kd = 0 := if_neg h3
    rw [ht] at hfb
    have b3 : (kd == 3) = false := by simp; omega
    have b4 : (kd == 4) = false := by simp; omega
    have b5 : (kd == 5) = false := by simp; omega
    cases hp : (plainF kd).2 with
    | true =>
      rw [hp] at c1 hfb
      refine Spec.body (C := cx [] 44) fits (fn := Tryd.f52) Tryd.func52 rfl (by decide) (by decide) (gI ?_)
      refine ST (wc c1 wz) ?_ <;> (repeat' (first | exact Wl.mk | refine wy1 ?_ ?_)) <;> repeat (intro hb; have hx := wy5 hb; clear hx)
      all_goals first
        | (rw [if_pos (by first | (right; left; simpa using hb) | (right; right; simpa using hb) | (left; rfl))] at hfb; subst hfb; exact ⟨rfl, rfl⟩)
        | (rw [if_neg (by
            have a : decide (d < 0) = false := by assumption
            simp at a hb
            simp [plainF]
            omega)] at hfb; subst hfb; exact ⟨rfl, rfl⟩)
        | trace_state
    | false =>
      rw [hp] at c1 hfb
      refine Spec.body (C := cx [] 44) fits (fn := Tryd.f52) Tryd.func52 rfl (by decide) (by decide) (gI ?_)
      refine ST (wc c1 wz) ?_ <;> (repeat' (first | exact Wl.mk | refine wy1 ?_ ?_)) <;> repeat (intro hb; have hx := wy5 hb; clear hx)
      all_goals first
        | (rw [if_pos (by first | (right; left; simpa using hb) | (right; right; simpa using hb) | (left; rfl))] at hfb; subst hfb; exact ⟨rfl, rfl⟩)
        | (rw [if_neg (by
            have a : decide (d < 0) = false := by assumption
            simp at a hb
            simp [plainF]
            omega)] at hfb; subst hfb; exact ⟨rfl, rfl⟩)
        | trace_state
end Go.Proofs.YtjjhckmnnaafkaaDoor
