/- An architecture that is none; the law CallsTell. -/
import Derived.Test.YtgcacmjgimhemaaDoorTll1
import Derived.Test.YtgcacmjgimhemaaDoorVlr
set_option linter.unusedVariables false
set_option linter.unusedSimpArgs false
namespace Go.Proofs.YtgcacmjgimhemaaDoor
open Go Go.Am Go.Proofs
attribute [local irreducible] W WL DL WO RoundEnd
set_option maxRecDepth 100000
set_option maxHeartbeats 4000000
set_option linter.unusedVariables false
set_option linter.unusedSimpArgs false
theorem arches7 [GVals] : Comp Tryd.prog 10 [] (lst strow7 [arch0, arch1, arch2]) := ev_val noHook_ok (d := 200) (by kernel_rfl)
theorem eq7 {a b : ByteArray} (h : (a == b) = true) : a = b := by
  obtain ⟨⟨a⟩⟩ := a; obtain ⟨⟨b⟩⟩ := b
  have h2 : (Array.mk a == Array.mk b) = true := h
  rw [beq_iff_eq] at h2
  rw [h2]
def nilC : V := .one (.d (.sc nilSlice))
section none_
variable (a : ByteArray) (h0 : (a == ⟨#[97, 97, 114, 99, 104, 54, 52]⟩) = false) (h1 : (a == ⟨#[105, 51, 56, 54]⟩) = false) (h2 : (a == ⟨#[120, 56, 54, 95, 54, 52]⟩) = false)
include h0 h1 h2
theorem nuNo [GVals] : Comp Tryd.prog 14 [str a] (t2 0 false) := by
  refine Spec.body (C := cx [] 11) fits (fn := Tryd.f14) Tryd.func14 rfl (by decide) (by decide) (gI ?_)
  repeat' (first | ((first | refine C_r ?_ | refine C0_r ?_ | refine O_r ?_ | refine R_r ?_); (conv => whnf); first | (refine ⟨fun hb => ?_, fun hb => ?_⟩ <;> try exact no_way) | refine A_o ?_ | refine B_o ?_ | refine C_o ?_ | refine R_o ?_ | refine fR ?_ | refine fRk ?_ | refine F_o ?_) | refine SA_l ?_ | refine V_l ?_ | refine L_l ?_ | refine Q_l ?_ | refine X_l ?_ | refine Xa_l ?_ | refine Xs_l ?_ | refine K_l ?_ | refine Ka_l ?_ | refine Lk_l ?_ | refine Up_l ?_ | refine Del_l ?_ | refine St_l ?_ | refine LU_l ?_ | refine Xw_l ?_ | refine Le_l ?_ | refine Se_l ?_ | refine M_l ?_ | refine A_l ?_ | refine A0_l ?_ | refine A1_l ?_ | refine Mk_l ?_ | refine Kz_l ?_ | refine W_l ?_ | fail)
  all_goals exact ⟨rfl, rfl⟩
theorem arNo [GVals] : Comp Tryd.prog 15 [str a] (t2 0 false) := by
  refine Spec.body (C := cx [] 11) fits (fn := Tryd.f15) Tryd.func15 rfl (by decide) (by decide) (gI ?_)
  repeat' (first | ((first | refine C_r ?_ | refine C0_r ?_ | refine O_r ?_ | refine R_r ?_); (conv => whnf); first | (refine ⟨fun hb => ?_, fun hb => ?_⟩ <;> try exact no_way) | refine A_o ?_ | refine B_o ?_ | refine C_o ?_ | refine R_o ?_ | refine fR ?_ | refine fRk ?_ | refine F_o ?_) | refine SA_l ?_ | refine V_l ?_ | refine L_l ?_ | refine Q_l ?_ | refine X_l ?_ | refine Xa_l ?_ | refine Xs_l ?_ | refine K_l ?_ | refine Ka_l ?_ | refine Lk_l ?_ | refine Up_l ?_ | refine Del_l ?_ | refine St_l ?_ | refine LU_l ?_ | refine Xw_l ?_ | refine Le_l ?_ | refine Se_l ?_ | refine M_l ?_ | refine A_l ?_ | refine A0_l ?_ | refine A1_l ?_ | refine Mk_l ?_ | refine Kz_l ?_ | refine W_l ?_ | fail)
  all_goals exact ⟨rfl, rfl⟩
theorem allNo [GVals] : Comp Tryd.prog 11 [str a] (lst Cal.row1 []) := by
  have c1 := arches7
  have c2 := index7 [arch0, arch1, arch2] a (by simp)
  have e : ixS a [arch0, arch1, arch2] 0 = -1 := by
    simp only [ixS, arch0, arch1, arch2, h0, h1, h2]; rfl
  rw [e] at c2
  refine Spec.body (C := cx [] 38) fits (fn := Tryd.f11) Tryd.func11 rfl (by decide) (by decide) (gI ?_)
  repeat' (first | ((first | refine C_r ?_ | refine C0_r ?_ | refine O_r ?_ | refine R_r ?_); (conv => whnf); first | (refine ⟨fun hb => ?_, fun hb => ?_⟩ <;> try exact no_way) | refine A_o ?_ | refine B_o ?_ | refine C_o ?_ | refine R_o ?_ | refine fR ?_ | refine fRk ?_ | refine F_o ?_) | refine C_l (c1) ?_ | refine C_l (c2) ?_ | refine SA_l ?_ | refine V_l ?_ | refine L_l ?_ | refine Q_l ?_ | refine X_l ?_ | refine Xa_l ?_ | refine Xs_l ?_ | refine K_l ?_ | refine Ka_l ?_ | refine Lk_l ?_ | refine Up_l ?_ | refine Del_l ?_ | refine St_l ?_ | refine LU_l ?_ | refine Xw_l ?_ | refine Le_l ?_ | refine Se_l ?_ | refine M_l ?_ | refine A_l ?_ | refine A0_l ?_ | refine A1_l ?_ | refine Mk_l ?_ | refine Kz_l ?_ | refine W_l ?_ | fail)
  all_goals exact ⟨rfl, rfl⟩
theorem callsNo [GVals] : Comp Tryd.prog 19 [str a] (lst Cal.row1 []) := by
  have c1 := rowsR
  have hl : rwL.length < 2 ^ 60 := by decide
  generalize rwL = l at c1 hl
  refine Spec.body (C := cx [] 55) fits (fn := Tryd.f19) Tryd.func19 rfl (by decide) (by decide) (gI ?_)
  repeat' (first | ((first | refine C_r ?_ | refine C0_r ?_ | refine O_r ?_ | refine R_r ?_); (conv => whnf); first | (refine ⟨fun hb => ?_, fun hb => ?_⟩ <;> try exact no_way) | refine A_o ?_ | refine B_o ?_ | refine C_o ?_ | refine R_o ?_ | refine fR ?_ | refine fRk ?_ | refine F_o ?_) | refine C_l (c1) ?_ | refine SA_l ?_ | refine V_l ?_ | refine L_l ?_ | refine Q_l ?_ | refine X_l ?_ | refine Xa_l ?_ | refine Xs_l ?_ | refine K_l ?_ | refine Ka_l ?_ | refine Lk_l ?_ | refine Up_l ?_ | refine Del_l ?_ | refine St_l ?_ | refine LU_l ?_ | refine Xw_l ?_ | refine Le_l ?_ | refine Se_l ?_ | refine M_l ?_ | refine A_l ?_ | refine A0_l ?_ | refine A1_l ?_ | refine Mk_l ?_ | refine Kz_l ?_ | refine W_l ?_ | fail)
  refine wLoop [0, 3, 4, 5] 0 (l.length + 1) ?_
  refine (fun key => key l [] _ rfl rfl :
    (∀ (rest done : List Rw) (j : Int), l = done ++ rest → j = done.length →
    WR2 _ _ _ _ _ (rest.length + 1) [(0, str a), (3, nilC), (4, lst Rw.row l), (5, int .i64 j)] []) → _) ?_
  intro rest
  induction rest with
  | nil =>
    intro done j g1 hj
    have hlen : l.length = done.length := by rw [g1]; simp
    refine wR (gI ?_)
    repeat' (first | ((first | refine C_r ?_ | refine C0_r ?_ | refine O_r ?_ | refine R_r ?_); (conv => whnf); first | (refine ⟨fun hb => ?_, fun hb => ?_⟩ <;> try exact no_way) | refine A_o ?_ | refine B_o ?_ | refine C_o ?_ | refine R_o ?_ | refine fR ?_ | refine fRk ?_ | refine F_o ?_) | refine SA_l ?_ | refine V_l ?_ | refine L_l ?_ | refine Q_l ?_ | refine X_l ?_ | refine Xa_l ?_ | refine Xs_l ?_ | refine K_l ?_ | refine Ka_l ?_ | refine Lk_l ?_ | refine Up_l ?_ | refine Del_l ?_ | refine St_l ?_ | refine LU_l ?_ | refine Xw_l ?_ | refine Le_l ?_ | refine Se_l ?_ | refine M_l ?_ | refine A_l ?_ | refine A0_l ?_ | refine A1_l ?_ | refine Mk_l ?_ | refine Kz_l ?_ | refine W_l ?_ | fail)
    exact ⟨rfl, rfl⟩
  | cons x rest ih =>
    intro done j g1 hj
    have hlen : l.length = done.length + (rest.length + 1) := by rw [g1]; simp
    obtain ⟨xn, xs, xa, xb, xc⟩ := x
    refine wR (gI ?_)
    repeat' (first | ((first | refine C_r ?_ | refine C0_r ?_ | refine O_r ?_ | refine R_r ?_); (conv => whnf); first | (refine ⟨fun hb => ?_, fun hb => ?_⟩ <;> try exact no_way) | refine A_o ?_ | refine B_o ?_ | refine C_o ?_ | refine R_o ?_ | refine fR ?_ | refine fRk ?_ | refine F_o ?_) | refine SA_l ?_ | refine V_l ?_ | refine L_l ?_ | refine Q_l ?_ | refine X_l ?_ | refine Xa_l ?_ | refine Xs_l ?_ | refine K_l ?_ | refine Ka_l ?_ | refine Lk_l ?_ | refine Up_l ?_ | refine Del_l ?_ | refine St_l ?_ | refine LU_l ?_ | refine Xw_l ?_ | refine Le_l ?_ | refine Se_l ?_ | refine M_l ?_ | refine A_l ?_ | refine A0_l ?_ | refine A1_l ?_ | refine Mk_l ?_ | refine Kz_l ?_ | refine W_l ?_ | fail)
    refine rE (ih (done ++ [⟨xn, xs, xa, xb, xc⟩]) _ (by rw [g1]; simp) ?_)
    rw [wrap_ok (by omega) (by omega)]; simp [hj]
end none_
theorem tellIn [GVals] (a c : ByteArray) (k d n : Int) (ok : Bool) (l : List Cal) (hl : l.length < 2 ^ 40) (c1 : Comp Tryd.prog 14 [str a] (t2 n ok)) (c2 : Comp Tryd.prog 15 [str a] (t2 n ok)) (c3 : Comp Tryd.prog 11 [str a] (lst Cal.row1 l)) (c4 : Comp Tryd.prog 19 [str a] (lst Cal.row1 l)) (hs : ∀ x ∈ l, Comp Tryd.prog 13 [.agg x.cells1, .agg x.cells1] (Am.bool true)) : Comp Tryd.prog 4 [str a, str c, actV k d] (Am.bool true) := by
  have c0 := alive7
  have c5 := findR a c l hl c3
  have c6 := findCallR a c l hl c4
  have c7 := valR k d
  have c8 := refValR k d
  unfold valV actV at c7 c8
  unfold actV
  generalize (valF k d).getD 0 = v at c7 c8
  generalize (valF k d).isSome = b at c7 c8
  have e1 : (!(v == v)) = false := by simp
  have e2 : (!(b == b)) = false := by simp
  have e3 : (!(n == n)) = false := by simp
  have e6 : (!(ok == ok)) = false := by simp
  have e4 : (!(((l.map Cal.row1).length : Int) == ((l.map Cal.row1).length : Int))) = false := by simp
  obtain ⟨zc, zb, hz, hf⟩ : ∃ (z : Cal) (zb : Bool), Comp Tryd.prog 13 [.agg z.cells1, .agg z.cells1] (Am.bool true) ∧ foundV Cal.row1 (l.find? fun x => x.name == c) = .tup [.agg z.cells1, .one (.d (.sc (.bool zb)))] := by
    cases ho : l.find? fun x => x.name == c with
    | none => exact ⟨⟨⟨#[]⟩, 0, []⟩, false, sameZ, rfl⟩
    | some x => exact ⟨x, true, hs x (List.mem_of_find?_eq_some ho), rfl⟩
  rw [hf] at c5 c6
  have e5 : (!(zb == zb)) = false := by simp
  obtain ⟨zn, zr, zp⟩ := zc
  unfold Cal.cells1 at c5 c6 hz
  simp only at c5 c6 hz
  refine Spec.body (C := cx [] 125) fits (fn := Tryd.f4) Tryd.func4 rfl (by decide) (by decide) (gI ?_)
  repeat' (first | ((first | refine C_r ?_ | refine C0_r ?_ | refine O_r ?_ | refine R_r ?_); (conv => whnf); first | (refine ⟨fun hb => ?_, fun hb => ?_⟩ <;> try exact no_way) | refine A_o ?_ | refine B_o ?_ | refine C_o ?_ | refine R_o ?_ | refine fR ?_ | refine fRk ?_ | refine F_o ?_) | refine C_l (c0) ?_ | refine C_l (c1) ?_ | refine C_l (c2) ?_ | refine C_l (c3) ?_ | refine C_l (c4) ?_ | refine C_l (c5) ?_ | refine C_l (c6) ?_ | refine C_l (c7) ?_ | refine C_l (c8) ?_ | refine C_l (hz) ?_ | refine SA_l ?_ | refine V_l ?_ | refine L_l ?_ | refine Q_l ?_ | refine X_l ?_ | refine Xa_l ?_ | refine Xs_l ?_ | refine K_l ?_ | refine Ka_l ?_ | refine Lk_l ?_ | refine Up_l ?_ | refine Del_l ?_ | refine St_l ?_ | refine LU_l ?_ | refine Xw_l ?_ | refine Le_l ?_ | refine Se_l ?_ | refine M_l ?_ | refine A_l ?_ | refine A0_l ?_ | refine A1_l ?_ | refine Mk_l ?_ | refine Kz_l ?_ | refine W_l ?_ | refine C_d (c0) ?_ | refine C_d (c1) ?_ | refine C_d (c2) ?_ | refine C_d (c3) ?_ | refine C_d (c4) ?_ | refine C_d (c5) ?_ | refine C_d (c6) ?_ | refine C_d (c7) ?_ | refine C_d (c8) ?_ | refine C_d (hz) ?_ | refine SA_d ?_ | refine V_d ?_ | refine L_d ?_ | refine Q_d ?_ | refine X_d ?_ | refine Xs_d ?_ | refine K_d ?_ | refine Ka_d ?_ | refine Lk_d ?_ | refine Up_d ?_ | refine A_d ?_ | refine A0_d ?_ | refine St_d ?_ | refine LU_d ?_ | refine Xw_d ?_ | refine Le_d ?_ | refine Se_d ?_ | refine M_d ?_ | refine N_d ?_ | refine Kz_d ?_ | refine W_d ?_ | fail)
  all_goals try exact ⟨rfl, rfl⟩
  all_goals
    refine wLoop [20, 21, 22] 3 (l.length + 1) ?_
    refine (fun key => key l [] _ rfl rfl :
      (∀ (rest done : List Cal) (j : Int), l = done ++ rest → j = done.length →
      WR2 _ _ _ _ _ (rest.length + 1) [(20, lst Cal.row1 l), (21, lst Cal.row1 l), (22, int .i64 j)] _) → _) ?_
    intro rest
    induction rest with
    | nil =>
      intro done j g1 hj
      have hlen : l.length = done.length := by rw [g1]; simp
      refine wR (gI ?_)
      repeat' (first | ((first | refine C_r ?_ | refine C0_r ?_ | refine O_r ?_ | refine R_r ?_); (conv => whnf); first | (refine ⟨fun hb => ?_, fun hb => ?_⟩ <;> try exact no_way) | refine A_o ?_ | refine B_o ?_ | refine C_o ?_ | refine R_o ?_ | refine fR ?_ | refine fRk ?_ | refine F_o ?_) | refine SA_l ?_ | refine V_l ?_ | refine L_l ?_ | refine Q_l ?_ | refine X_l ?_ | refine Xa_l ?_ | refine Xs_l ?_ | refine K_l ?_ | refine Ka_l ?_ | refine Lk_l ?_ | refine Up_l ?_ | refine Del_l ?_ | refine St_l ?_ | refine LU_l ?_ | refine Xw_l ?_ | refine Le_l ?_ | refine Se_l ?_ | refine M_l ?_ | refine A_l ?_ | refine A0_l ?_ | refine A1_l ?_ | refine Mk_l ?_ | refine Kz_l ?_ | refine W_l ?_ | fail)
      exact ⟨rfl, rfl⟩
    | cons x rest ih =>
      intro done j g1 hj
      have hlen : l.length = done.length + (rest.length + 1) := by rw [g1]; simp
      have hx := hs x (by rw [g1]; simp)
      obtain ⟨xn, xs, xp⟩ := x
      unfold Cal.cells1 at hx
      simp only at hx
      refine wR (gI ?_)
      repeat' (first | ((first | refine C_r ?_ | refine C0_r ?_ | refine O_r ?_ | refine R_r ?_); (conv => whnf); first | (refine ⟨fun hb => ?_, fun hb => ?_⟩ <;> try exact no_way) | refine A_o ?_ | refine B_o ?_ | refine C_o ?_ | refine R_o ?_ | refine fR ?_ | refine fRk ?_ | refine F_o ?_) | refine C_l (hx) ?_ | refine SA_l ?_ | refine V_l ?_ | refine L_l ?_ | refine Q_l ?_ | refine X_l ?_ | refine Xa_l ?_ | refine Xs_l ?_ | refine K_l ?_ | refine Ka_l ?_ | refine Lk_l ?_ | refine Up_l ?_ | refine Del_l ?_ | refine St_l ?_ | refine LU_l ?_ | refine Xw_l ?_ | refine Le_l ?_ | refine Se_l ?_ | refine M_l ?_ | refine A_l ?_ | refine A0_l ?_ | refine A1_l ?_ | refine Mk_l ?_ | refine Kz_l ?_ | refine W_l ?_ | refine C_d (hx) ?_ | refine SA_d ?_ | refine V_d ?_ | refine L_d ?_ | refine Q_d ?_ | refine X_d ?_ | refine Xs_d ?_ | refine K_d ?_ | refine Ka_d ?_ | refine Lk_d ?_ | refine Up_d ?_ | refine A_d ?_ | refine A0_d ?_ | refine St_d ?_ | refine LU_d ?_ | refine Xw_d ?_ | refine Le_d ?_ | refine Se_d ?_ | refine M_d ?_ | refine N_d ?_ | refine Kz_d ?_ | refine W_d ?_ | fail)
      refine rE (ih (done ++ [⟨xn, xs, xp⟩]) _ (by rw [g1]; simp) ?_)
      rw [wrap_ok (by omega) (by omega)]; simp [hj]
theorem act7_typed {xs : List D} (h : Typed Tryd.prog 35 xs) : ∃ k d : Int, xs = [.sc (.int .i64 k), .sc (.int .i64 d)] := act_typed h
theorem tell7 [GVals] (a c : ByteArray) (k d : Int) : Comp Tryd.prog 4 [str a, str c, actV k d] (Am.bool true) := by
  cases h0 : a == ⟨#[97, 97, 114, 99, 104, 54, 52]⟩ with
  | true =>
    obtain rfl : a = arch0 := eq7 h0
    exact tellIn _ c k d _ _ calL0 (by decide) nu0 ar0 all0 cls0 same0
  | false =>
  cases h1 : a == ⟨#[105, 51, 56, 54]⟩ with
  | true =>
    obtain rfl : a = arch1 := eq7 h1
    exact tellIn _ c k d _ _ calL1 (by decide) nu1 ar1 all1 cls1 same1
  | false =>
  cases h2 : a == ⟨#[120, 56, 54, 95, 54, 52]⟩ with
  | true =>
    obtain rfl : a = arch2 := eq7 h2
    exact tellIn _ c k d _ _ calL2 (by decide) nu2 ar2 all2 cls2 same2
  | false => exact tellIn a c k d _ _ [] (by decide) (nuNo a h0 h1 h2) (arNo a h0 h1 h2) (allNo a h0 h1 h2) (callsNo a h0 h1 h2) (fun x hx => by cases hx)
theorem callsTell_typed [GVals] {x0 x1 x2 : List D} (y0 : Typed Tryd.prog 9 x0) (y1 : Typed Tryd.prog 9 x1) (y2 : Typed Tryd.prog 35 x2) : Comp Tryd.prog 4 [argV (aggTy Tryd.prog 9) x0, argV (aggTy Tryd.prog 9) x1, argV (aggTy Tryd.prog 35) x2] (Am.bool true) := by
  have a0 : aggTy Tryd.prog 9 = false := by unfold aggTy; rw [Tryd.underlying9]
  have a1 : aggTy Tryd.prog 35 = true := by unfold aggTy; rw [Tryd.underlying35]
  obtain ⟨a, rfl, _⟩ := y0.str_inv Tryd.underlying9
  obtain ⟨c, rfl, _⟩ := y1.str_inv Tryd.underlying9
  obtain ⟨k, d, rfl⟩ := act_typed y2
  rw [a0, a1]
  exact tell7 a c k d
end Go.Proofs.YtgcacmjgimhemaaDoor
