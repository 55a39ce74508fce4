/- calls.Find, the document's FindCall; an architecture that is none. -/
import Derived.Test.YtgcacmjgimhemaaDoorTll0
set_option linter.unusedVariables false
set_option linter.unusedSimpArgs false
namespace Go.Proofs.YtgcacmjgimhemaaDoor
open Go Go.Am Go.Proofs
attribute [local irreducible] W WL DL WO RoundEnd
set_option maxRecDepth 100000
set_option maxHeartbeats 4000000
set_option linter.unusedVariables false
set_option linter.unusedSimpArgs false
def ixS (s : ByteArray) : List ByteArray → Int → Int
  | [], _ => -1
  | x :: r, j => if s == x then j else ixS s r (j + 1)
theorem index7 [GVals] (l : List ByteArray) (s : ByteArray) (hl : l.length < 2 ^ 60) : Comp Tryd.prog 29 [lst strow7 l, str s] (int .i64 (ixS s l 0)) := by
  generalize hfb : ixS s l 0 = fb
  refine Spec.body (C := cx [] 19) fits (fn := Tryd.f29) Tryd.func29 rfl (by decide) (by decide) (gI ?_)
  repeat' (first | ((first | refine C_r ?_ | refine C0_r ?_ | refine O_r ?_ | refine R_r ?_); (conv => whnf); first | (refine ⟨fun hb => ?_, fun hb => ?_⟩ <;> try exact no_way) | refine A_o ?_ | refine B_o ?_ | refine C_o ?_ | refine R_o ?_ | refine fR ?_ | refine fRk ?_ | refine F_o ?_) | refine SA_l ?_ | refine V_l ?_ | refine L_l ?_ | refine Q_l ?_ | refine X_l ?_ | refine Xa_l ?_ | refine Xs_l ?_ | refine K_l ?_ | refine Ka_l ?_ | refine Lk_l ?_ | refine Up_l ?_ | refine Del_l ?_ | refine St_l ?_ | refine LU_l ?_ | refine Xw_l ?_ | refine Le_l ?_ | refine Se_l ?_ | refine M_l ?_ | refine A_l ?_ | refine A0_l ?_ | refine A1_l ?_ | refine Mk_l ?_ | refine Kz_l ?_ | refine W_l ?_ | fail)
  refine wLoop [0, 1, 7, 8] 0 (l.length + 1) ?_
  refine (fun key => key l [] _ rfl rfl hfb.symm :
    (∀ (rest done : List ByteArray) (j : Int), l = done ++ rest → j = done.length → fb = ixS s rest j →
    WR2 _ _ _ _ _ (rest.length + 1) [(0, lst strow7 l), (1, str s), (7, int .i64 (l.map strow7).length), (8, int .i64 j)] []) → _) ?_
  intro rest
  induction rest with
  | nil =>
    intro done j h1 hj hr
    have hlen : l.length = done.length := by rw [h1]; simp
    refine wR (gI ?_)
    repeat' (first | ((first | refine C_r ?_ | refine C0_r ?_ | refine O_r ?_ | refine R_r ?_); (conv => whnf); first | (refine ⟨fun hb => ?_, fun hb => ?_⟩ <;> try exact no_way) | refine A_o ?_ | refine B_o ?_ | refine C_o ?_ | refine R_o ?_ | refine fR ?_ | refine fRk ?_ | refine F_o ?_) | refine SA_l ?_ | refine V_l ?_ | refine L_l ?_ | refine Q_l ?_ | refine X_l ?_ | refine Xa_l ?_ | refine Xs_l ?_ | refine K_l ?_ | refine Ka_l ?_ | refine Lk_l ?_ | refine Up_l ?_ | refine Del_l ?_ | refine St_l ?_ | refine LU_l ?_ | refine Xw_l ?_ | refine Le_l ?_ | refine Se_l ?_ | refine M_l ?_ | refine A_l ?_ | refine A0_l ?_ | refine A1_l ?_ | refine Mk_l ?_ | refine Kz_l ?_ | refine W_l ?_ | fail)
    exact ⟨by rw [hr]; rfl, rfl⟩
  | cons x rest ih =>
    intro done j h1 hj hr
    have hlen : l.length = done.length + (rest.length + 1) := by rw [h1]; simp
    refine wR (gI ?_)
    repeat' (first | ((first | refine C_r ?_ | refine C0_r ?_ | refine O_r ?_ | refine R_r ?_); (conv => whnf); first | (refine ⟨fun hb => ?_, fun hb => ?_⟩ <;> try exact no_way) | refine A_o ?_ | refine B_o ?_ | refine C_o ?_ | refine R_o ?_ | refine fR ?_ | refine fRk ?_ | refine F_o ?_) | refine SA_l ?_ | refine V_l ?_ | refine L_l ?_ | refine Q_l ?_ | refine X_l ?_ | refine Xa_l ?_ | refine Xs_l ?_ | refine K_l ?_ | refine Ka_l ?_ | refine Lk_l ?_ | refine Up_l ?_ | refine Del_l ?_ | refine St_l ?_ | refine LU_l ?_ | refine Xw_l ?_ | refine Le_l ?_ | refine Se_l ?_ | refine M_l ?_ | refine A_l ?_ | refine A0_l ?_ | refine A1_l ?_ | refine Mk_l ?_ | refine Kz_l ?_ | refine W_l ?_ | fail)
    · exact ⟨by rw [hr]; simp only [ixS, hb]; rfl, rfl⟩
    · refine rE (ih (done ++ [x]) _ (by rw [h1]; simp) ?_ ?_)
      · rw [wrap_ok (by omega) (by omega)]; simp [hj]
      · rw [hr, wrap_ok (by omega) (by omega)]; simp only [ixS, hb]; rfl
def ixC {α : Type} (p : α → Bool) : List α → Int → Int
  | [], _ => -1
  | x :: r, j => if p x then j else ixC p r (j + 1)
theorem ixC_spec {α : Type} (p : α → Bool) : ∀ (l : List α) (j : Int), (ixC p l j = -1 ∧ l.find? p = none) ∨ ∃ n x, l[n]? = some x ∧ ixC p l j = j + (n : Nat) ∧ l.find? p = some x
  | [], j => .inl ⟨rfl, rfl⟩
  | x :: r, j => by
    rw [ixC, List.find?_cons]
    cases e : p x with
    | true => exact .inr ⟨0, x, rfl, by simp, rfl⟩
    | false =>
      simp only [Bool.false_eq_true, if_false]
      rcases ixC_spec p r (j + 1) with ⟨h1, h2⟩ | ⟨n, y, h1, h2, h4⟩
      · exact .inl ⟨h1, h2⟩
      · exact .inr ⟨n + 1, y, by simpa using h1, by rw [h2]; omega, h4⟩
theorem cloFind [GVals] (c : ByteArray) (x : Cal) : Am.Spec Tryd.prog 33 [.agg ((Cal.row1 x).map .d), .one (.ptr 0 0)] [.var [.d (.sc (.string c))]] (fun v s => v = Am.bool (x.name == c) ∧ s = [.var [.d (.sc (.string c))]]) := by
  refine Spec.body (C := cx [] 8) fits (fn := Tryd.f33) Tryd.func33 rfl (by decide) (by decide) (gI ?_)
  repeat' (first | ((first | refine C_r ?_ | refine C0_r ?_ | refine O_r ?_ | refine R_r ?_); (conv => whnf); first | (refine ⟨fun hb => ?_, fun hb => ?_⟩ <;> try exact no_way) | refine A_o ?_ | refine B_o ?_ | refine C_o ?_ | refine R_o ?_ | refine fR ?_ | refine fRk ?_ | refine F_o ?_) | refine SA_l ?_ | refine V_l ?_ | refine L_l ?_ | refine Q_l ?_ | refine X_l ?_ | refine Xa_l ?_ | refine Xs_l ?_ | refine K_l ?_ | refine Ka_l ?_ | refine Lk_l ?_ | refine Up_l ?_ | refine Del_l ?_ | refine St_l ?_ | refine LU_l ?_ | refine Xw_l ?_ | refine Le_l ?_ | refine Se_l ?_ | refine M_l ?_ | refine A_l ?_ | refine A0_l ?_ | refine A1_l ?_ | refine Mk_l ?_ | refine Kz_l ?_ | refine W_l ?_ | fail)
  all_goals exact ⟨by rw [hb]; rfl, rfl⟩
theorem ixFind [GVals] (c : ByteArray) (l : List Cal) (hl : l.length < 2 ^ 60) : Am.Spec Tryd.prog 32 [lst Cal.row1 l, .one (.fn (.func 33) [] [.ptr 0 0])] [.var [.d (.sc (.string c))]] (fun v s => v = int .i64 (ixC (fun x : Cal => x.name == c) l 0) ∧ s = [.var [.d (.sc (.string c))]]) := by
  generalize hfb : ixC (fun x : Cal => x.name == c) l 0 = fb
  refine Spec.body (C := cx [] 19) fits (fn := Tryd.f32) Tryd.func32 rfl (by decide) (by decide) (gI ?_)
  repeat' (first | ((first | refine C_r ?_ | refine C0_r ?_ | refine O_r ?_ | refine R_r ?_); (conv => whnf); first | (refine ⟨fun hb => ?_, fun hb => ?_⟩ <;> try exact no_way) | refine A_o ?_ | refine B_o ?_ | refine C_o ?_ | refine R_o ?_ | refine fR ?_ | refine fRk ?_ | refine F_o ?_) | refine SA_l ?_ | refine V_l ?_ | refine L_l ?_ | refine Q_l ?_ | refine X_l ?_ | refine Xa_l ?_ | refine Xs_l ?_ | refine K_l ?_ | refine Ka_l ?_ | refine Lk_l ?_ | refine Up_l ?_ | refine Del_l ?_ | refine St_l ?_ | refine LU_l ?_ | refine Xw_l ?_ | refine Le_l ?_ | refine Se_l ?_ | refine M_l ?_ | refine A_l ?_ | refine A0_l ?_ | refine A1_l ?_ | refine Mk_l ?_ | refine Kz_l ?_ | refine W_l ?_ | fail)
  refine wLoop [0, 1, 7, 8] 1 (l.length + 1) ?_
  refine (fun key => key l [] _ rfl rfl hfb.symm :
    (∀ (rest done : List Cal) (j : Int), l = done ++ rest → j = done.length → fb = ixC (fun x : Cal => x.name == c) rest j →
    WR2 _ _ _ _ _ (rest.length + 1) [(0, lst Cal.row1 l), (1, .one (.fn (.func 33) [] [.ptr 0 0])), (7, int .i64 (l.map Cal.row1).length), (8, int .i64 j)] [.var [.d (.sc (.string c))]]) → _) ?_
  intro rest
  induction rest with
  | nil =>
    intro done j h1 hj hr
    have hlen : l.length = done.length := by rw [h1]; simp
    refine wR (gI ?_)
    repeat' (first | ((first | refine C_r ?_ | refine C0_r ?_ | refine O_r ?_ | refine R_r ?_); (conv => whnf); first | (refine ⟨fun hb => ?_, fun hb => ?_⟩ <;> try exact no_way) | refine A_o ?_ | refine B_o ?_ | refine C_o ?_ | refine R_o ?_ | refine fR ?_ | refine fRk ?_ | refine F_o ?_) | refine SA_l ?_ | refine V_l ?_ | refine L_l ?_ | refine Q_l ?_ | refine X_l ?_ | refine Xa_l ?_ | refine Xs_l ?_ | refine K_l ?_ | refine Ka_l ?_ | refine Lk_l ?_ | refine Up_l ?_ | refine Del_l ?_ | refine St_l ?_ | refine LU_l ?_ | refine Xw_l ?_ | refine Le_l ?_ | refine Se_l ?_ | refine M_l ?_ | refine A_l ?_ | refine A0_l ?_ | refine A1_l ?_ | refine Mk_l ?_ | refine Kz_l ?_ | refine W_l ?_ | fail)
    exact ⟨by rw [hr]; rfl, rfl⟩
  | cons x rest ih =>
    intro done j h1 hj hr
    have hlen : l.length = done.length + (rest.length + 1) := by rw [h1]; simp
    have hc := cloFind c x
    rw [ixC] at hr
    obtain ⟨xn, xs, xp⟩ := x
    cases hp : (xn == c) with
    | true =>
      rw [hp] at hc
      simp only [hp, if_true] at hr
      refine wR (gI ?_)
      repeat' (first | ((first | refine C_r ?_ | refine C0_r ?_ | refine O_r ?_ | refine R_r ?_); (conv => whnf); first | (refine ⟨fun hb => ?_, fun hb => ?_⟩ <;> try exact no_way) | refine A_o ?_ | refine B_o ?_ | refine C_o ?_ | refine R_o ?_ | refine fR ?_ | refine fRk ?_ | refine F_o ?_) | refine fun k => WL.crpU [0] [.var [.d (.sc (.string c))]] _ _ hc (oW ?_ _) | refine SA_l ?_ | refine V_l ?_ | refine L_l ?_ | refine Q_l ?_ | refine X_l ?_ | refine Xa_l ?_ | refine Xs_l ?_ | refine K_l ?_ | refine Ka_l ?_ | refine Lk_l ?_ | refine Up_l ?_ | refine Del_l ?_ | refine St_l ?_ | refine LU_l ?_ | refine Xw_l ?_ | refine Le_l ?_ | refine Se_l ?_ | refine M_l ?_ | refine A_l ?_ | refine A0_l ?_ | refine A1_l ?_ | refine Mk_l ?_ | refine Kz_l ?_ | refine W_l ?_ | fail)
      exact ⟨by rw [hr]; rfl, rfl⟩
    | false =>
      rw [hp] at hc
      simp only [hp, Bool.false_eq_true, if_false] at hr
      refine wR (gI ?_)
      repeat' (first | ((first | refine C_r ?_ | refine C0_r ?_ | refine O_r ?_ | refine R_r ?_); (conv => whnf); first | (refine ⟨fun hb => ?_, fun hb => ?_⟩ <;> try exact no_way) | refine A_o ?_ | refine B_o ?_ | refine C_o ?_ | refine R_o ?_ | refine fR ?_ | refine fRk ?_ | refine F_o ?_) | refine fun k => WL.crpU [0] [.var [.d (.sc (.string c))]] _ _ hc (oW ?_ _) | refine SA_l ?_ | refine V_l ?_ | refine L_l ?_ | refine Q_l ?_ | refine X_l ?_ | refine Xa_l ?_ | refine Xs_l ?_ | refine K_l ?_ | refine Ka_l ?_ | refine Lk_l ?_ | refine Up_l ?_ | refine Del_l ?_ | refine St_l ?_ | refine LU_l ?_ | refine Xw_l ?_ | refine Le_l ?_ | refine Se_l ?_ | refine M_l ?_ | refine A_l ?_ | refine A0_l ?_ | refine A1_l ?_ | refine Mk_l ?_ | refine Kz_l ?_ | refine W_l ?_ | fail)
      refine rE (ih (done ++ [⟨xn, xs, xp⟩]) _ (by rw [h1]; simp) ?_ ?_)
      · rw [wrap_ok (by omega) (by omega)]; simp [hj]
      · rw [hr, wrap_ok (by omega) (by omega)]
def foundV (f : Cal → List D) : Option Cal → V
  | some x => .tup [.agg ((f x).map .d), .one (.d (.sc (.bool true)))]
  | none => .tup [.agg zeroC, .one (.d (.sc (.bool false)))]
theorem findR [GVals] (a c : ByteArray) (l : List Cal) (hl : l.length < 2 ^ 40) (c0 : Comp Tryd.prog 11 [str a] (lst Cal.row1 l)) : Comp Tryd.prog 12 [str a, str c] (foundV Cal.row1 (l.find? fun x => x.name == c)) := by
  have c1 := ixFind c l (by omega)
  rcases ixC_spec (fun x : Cal => x.name == c) l 0 with ⟨h1, h2⟩ | ⟨n, x, h1, h2, h4⟩
  · rw [h1] at c1
    rw [h2]
    unfold foundV zeroC
    refine Spec.body (C := cx [] 20) fits (fn := Tryd.f12) Tryd.func12 rfl (by decide) (by decide) (gI ?_)
    repeat' (first | ((first | refine C_r ?_ | refine C0_r ?_ | refine O_r ?_ | refine R_r ?_); (conv => whnf); first | (refine ⟨fun hb => ?_, fun hb => ?_⟩ <;> try exact no_way) | refine A_o ?_ | refine B_o ?_ | refine C_o ?_ | refine R_o ?_ | refine fR ?_ | refine fRk ?_ | refine F_o ?_) | refine C_l (c0) ?_ | refine fun k => WL.crpU [0] [.var [.d (.sc (.string c))]] _ _ c1 (oW ?_ _) | refine SA_l ?_ | refine V_l ?_ | refine L_l ?_ | refine Q_l ?_ | refine X_l ?_ | refine Xa_l ?_ | refine Xs_l ?_ | refine K_l ?_ | refine Ka_l ?_ | refine Lk_l ?_ | refine Up_l ?_ | refine Del_l ?_ | refine St_l ?_ | refine LU_l ?_ | refine Xw_l ?_ | refine Le_l ?_ | refine Se_l ?_ | refine M_l ?_ | refine A_l ?_ | refine A0_l ?_ | refine A1_l ?_ | refine Mk_l ?_ | refine Kz_l ?_ | refine W_l ?_ | fail)
    exact ⟨rfl, rfl⟩
  · have hn : (0 : Int) + (n : Nat) = (n : Int) := by omega
    rw [h2, hn] at c1
    rw [h4]
    unfold foundV
    obtain ⟨xn, xs, xp⟩ := x
    have h5 : (l.map Cal.row1)[((n : Int)).toNat]? = some (Cal.row1 ⟨xn, xs, xp⟩) := by simp [List.getElem?_map, h1]
    have b1 : decide ((n : Int) < 0) = false := decide_eq_false (by omega)
    refine Spec.body (C := cx [] 20) fits (fn := Tryd.f12) Tryd.func12 rfl (by decide) (by decide) (gI ?_)
    repeat' (first | ((first | refine C_r ?_ | refine C0_r ?_ | refine O_r ?_ | refine R_r ?_); (conv => whnf); first | (refine ⟨fun hb => ?_, fun hb => ?_⟩ <;> try exact no_way) | refine A_o ?_ | refine B_o ?_ | refine C_o ?_ | refine R_o ?_ | refine fR ?_ | refine fRk ?_ | refine F_o ?_) | refine C_l (c0) ?_ | refine fun k => WL.crpU [0] [.var [.d (.sc (.string c))]] _ _ c1 (oW ?_ _) | refine SA_l ?_ | refine V_l ?_ | refine L_l ?_ | refine Q_l ?_ | refine X_l ?_ | refine Xa_l ?_ | refine Xs_l ?_ | refine K_l ?_ | refine Ka_l ?_ | refine Lk_l ?_ | refine Up_l ?_ | refine Del_l ?_ | refine St_l ?_ | refine LU_l ?_ | refine Xw_l ?_ | refine Le_l ?_ | refine Se_l ?_ | refine M_l ?_ | refine A_l ?_ | refine A0_l ?_ | refine A1_l ?_ | refine Mk_l ?_ | refine Kz_l ?_ | refine W_l ?_ | fail)
    exact ⟨rfl, rfl⟩
theorem findCallR [GVals] (a c : ByteArray) (l : List Cal) (hl : l.length < 2 ^ 40) (c0 : Comp Tryd.prog 19 [str a] (lst Cal.row1 l)) : Comp Tryd.prog 16 [str a, str c] (foundV Cal.row1 (l.find? fun x => x.name == c)) := by
  generalize hfb : foundV Cal.row1 (l.find? fun x => x.name == c) = fb
  refine Spec.body (C := cx [] 28) fits (fn := Tryd.f16) Tryd.func16 rfl (by decide) (by decide) (gI ?_)
  repeat' (first | ((first | refine C_r ?_ | refine C0_r ?_ | refine O_r ?_ | refine R_r ?_); (conv => whnf); first | (refine ⟨fun hb => ?_, fun hb => ?_⟩ <;> try exact no_way) | refine A_o ?_ | refine B_o ?_ | refine C_o ?_ | refine R_o ?_ | refine fR ?_ | refine fRk ?_ | refine F_o ?_) | refine C_l (c0) ?_ | refine SA_l ?_ | refine V_l ?_ | refine L_l ?_ | refine Q_l ?_ | refine X_l ?_ | refine Xa_l ?_ | refine Xs_l ?_ | refine K_l ?_ | refine Ka_l ?_ | refine Lk_l ?_ | refine Up_l ?_ | refine Del_l ?_ | refine St_l ?_ | refine LU_l ?_ | refine Xw_l ?_ | refine Le_l ?_ | refine Se_l ?_ | refine M_l ?_ | refine A_l ?_ | refine A0_l ?_ | refine A1_l ?_ | refine Mk_l ?_ | refine Kz_l ?_ | refine W_l ?_ | fail)
  refine wLoop [1, 4, 6, 7] 1 (l.length + 1) ?_
  refine (fun key => key l [] _ rfl rfl hfb.symm :
    (∀ (rest done : List Cal) (j : Int), l = done ++ rest → j = done.length → fb = foundV Cal.row1 (rest.find? fun x => x.name == c) →
    WR2 _ _ _ _ _ (rest.length + 1) [(1, str c), (4, .one (.ptr 0 0)), (6, lst Cal.row1 l), (7, int .i64 j)] [.var [.d (.sc (.string ⟨#[]⟩)), .d (.sc (.int .u32 0)), .d (.sc nilSlice)]]) → _) ?_
  intro rest
  induction rest with
  | nil =>
    intro done j h1 hj hr
    have hlen : l.length = done.length := by rw [h1]; simp
    refine wR (gI ?_)
    repeat' (first | ((first | refine C_r ?_ | refine C0_r ?_ | refine O_r ?_ | refine R_r ?_); (conv => whnf); first | (refine ⟨fun hb => ?_, fun hb => ?_⟩ <;> try exact no_way) | refine A_o ?_ | refine B_o ?_ | refine C_o ?_ | refine R_o ?_ | refine fR ?_ | refine fRk ?_ | refine F_o ?_) | refine SA_l ?_ | refine V_l ?_ | refine L_l ?_ | refine Q_l ?_ | refine X_l ?_ | refine Xa_l ?_ | refine Xs_l ?_ | refine K_l ?_ | refine Ka_l ?_ | refine Lk_l ?_ | refine Up_l ?_ | refine Del_l ?_ | refine St_l ?_ | refine LU_l ?_ | refine Xw_l ?_ | refine Le_l ?_ | refine Se_l ?_ | refine M_l ?_ | refine A_l ?_ | refine A0_l ?_ | refine A1_l ?_ | refine Mk_l ?_ | refine Kz_l ?_ | refine W_l ?_ | fail)
    exact ⟨by rw [hr]; rfl, rfl⟩
  | cons x rest ih =>
    intro done j h1 hj hr
    have hlen : l.length = done.length + (rest.length + 1) := by rw [h1]; simp
    rw [List.find?_cons] at hr
    obtain ⟨xn, xs, xp⟩ := x
    refine wR (gI ?_)
    repeat' (first | ((first | refine C_r ?_ | refine C0_r ?_ | refine O_r ?_ | refine R_r ?_); (conv => whnf); first | (refine ⟨fun hb => ?_, fun hb => ?_⟩ <;> try exact no_way) | refine A_o ?_ | refine B_o ?_ | refine C_o ?_ | refine R_o ?_ | refine fR ?_ | refine fRk ?_ | refine F_o ?_) | refine SA_l ?_ | refine V_l ?_ | refine L_l ?_ | refine Q_l ?_ | refine X_l ?_ | refine Xa_l ?_ | refine Xs_l ?_ | refine K_l ?_ | refine Ka_l ?_ | refine Lk_l ?_ | refine Up_l ?_ | refine Del_l ?_ | refine St_l ?_ | refine LU_l ?_ | refine Xw_l ?_ | refine Le_l ?_ | refine Se_l ?_ | refine M_l ?_ | refine A_l ?_ | refine A0_l ?_ | refine A1_l ?_ | refine Mk_l ?_ | refine Kz_l ?_ | refine W_l ?_ | fail)
    · simp only [hb] at hr
      exact ⟨by rw [hr]; rfl, rfl⟩
    · simp only [hb] at hr
      refine rE (ih (done ++ [⟨xn, xs, xp⟩]) _ (by rw [h1]; simp) ?_ hr)
      rw [wrap_ok (by omega) (by omega)]; simp [hj]
end Go.Proofs.YtgcacmjgimhemaaDoor
