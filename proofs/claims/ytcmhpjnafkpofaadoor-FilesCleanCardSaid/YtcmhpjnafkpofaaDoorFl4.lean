/- Paths: the document's clean. -/
import Derived.Test.YtcmhpjnafkpofaaDoorFl3
set_option linter.unusedVariables false
set_option linter.unusedSimpArgs false
namespace Go.Proofs.YtcmhpjnafkpofaaDoor
open Go Go.Am Go.Proofs
attribute [local irreducible] W WL DL WO RoundEnd
set_option maxRecDepth 10000
set_option maxHeartbeats 4000000
set_option linter.unusedVariables false
set_option linter.unusedSimpArgs false
/-- so far: nil, or a list -/
def nilOr (v : V) (out : List ByteArray) : Prop := (v = nilV ∧ out = []) ∨ v = lst strrow out
theorem join_one (a : ByteArray) : joinB [a] = a := by
  unfold joinB
  rw [List.map_cons, List.map_nil, Lib.join_one]; rfl
theorem join_snoc (a : ByteArray) (l : List ByteArray) (x : ByteArray) : joinB (a :: (l ++ [x])) = joinB (a :: l) ++ slash ++ x := by
  unfold joinB
  rw [List.map_cons, List.map_cons, List.map_append, Lib.join_cons, Lib.join_cons]
  apply ByteArray.ext
  apply Array.ext'
  simp [ba, Lib.joinTail, slash, ByteArray.toList_data_append]
theorem refCleanR [GVals] (ps : List ByteArray) (hp : ps.length < 2 ^ 34) (hj : ∀ out k, cleanW ps [] = some out → (joinB (out.take k)).size ≤ 4294967296) : Comp Tryd.prog 25 [lst strrow ps] (refV (cleanW ps [])) := by
  generalize hfb : cleanW ps [] = fb at *
  refine Spec.body (C := cx [(19, false)] 59) fits (fn := Tryd.f25) Tryd.func25 rfl (by decide) (by decide) (gI ?_)
  repeat' (first | ((first | refine C_r ?_ | refine C0_r ?_ | refine O_r ?_ | refine R_r ?_); (conv => whnf); first | (refine ⟨fun hb => ?_, fun hb => ?_⟩ <;> try exact no_way) | refine A_o ?_ | refine B_o ?_ | refine C_o ?_ | refine R_o ?_ | refine fR ?_ | refine fRk ?_ | refine F_o ?_) | refine SA_l ?_ | refine V_l ?_ | refine L_l ?_ | refine Q_l ?_ | refine X_l ?_ | refine Xa_l ?_ | refine Xs_l ?_ | refine K_l ?_ | refine Ka_l ?_ | refine Lk_l ?_ | refine Up_l ?_ | refine Del_l ?_ | refine St_l ?_ | refine LU_l ?_ | refine Xw_l ?_ | refine Le_l ?_ | refine Se_l ?_ | refine M_l ?_ | refine A_l ?_ | refine A0_l ?_ | refine A1_l ?_ | refine Mk_l ?_ | refine Kz_l ?_ | refine W_l ?_ | refine SA_d ?_ | refine V_d ?_ | refine L_d ?_ | refine Q_d ?_ | refine X_d ?_ | refine Xs_d ?_ | refine K_d ?_ | refine Ka_d ?_ | refine Lk_d ?_ | refine Up_d ?_ | refine A_d ?_ | refine A0_d ?_ | refine St_d ?_ | refine LU_d ?_ | refine Xw_d ?_ | refine Le_d ?_ | refine Se_d ?_ | refine M_d ?_ | refine Mk_d ?_ | refine N_d ?_ | refine Kz_d ?_ | refine W_d ?_ | fail)
  refine wLoop [0, 4, 5] 0 (ps.length + 1) ?_
  refine (fun key => key ps [] [] _ (.inl ⟨rfl, rfl⟩) rfl hfb.symm (Nat.le_refl _) :
    (∀ (rest done out : List ByteArray) (v : V), nilOr v out → ps = done ++ rest → fb = cleanW rest out → out.length ≤ done.length →
    WR2 _ _ _ _ _ (rest.length + 1) [(0, lst strrow ps), (4, v), (5, int .i64 done.length)] []) → _) ?_
  intro rest
  induction rest with
  | nil =>
    intro done out v hv h1 hr ho
    have hlen : ps.length = done.length := by rw [h1]; simp
    have hfb2 : fb = some out := hr
    subst hfb2
    have q : decide ((done.length : Int) < ((ps.map strrow).length : Int)) = false := by rw [decide_eq_false_iff_not, List.length_map]; omega
    rcases hv with ⟨rfl, rfl⟩ | rfl
    · refine wR (gI ?_)
      repeat' (first | ((first | refine C_r ?_ | refine C0_r ?_ | refine O_r ?_ | refine R_r ?_); (conv => whnf); first | (refine ⟨fun hb => ?_, fun hb => ?_⟩ <;> try exact no_way) | refine A_o ?_ | refine B_o ?_ | refine C_o ?_ | refine R_o ?_ | refine fR ?_ | refine fRk ?_ | refine F_o ?_) | refine SA_l ?_ | refine V_l ?_ | refine L_l ?_ | refine Q_l ?_ | refine X_l ?_ | refine Xa_l ?_ | refine Xs_l ?_ | refine K_l ?_ | refine Ka_l ?_ | refine Lk_l ?_ | refine Up_l ?_ | refine Del_l ?_ | refine St_l ?_ | refine LU_l ?_ | refine Xw_l ?_ | refine Le_l ?_ | refine Se_l ?_ | refine M_l ?_ | refine A_l ?_ | refine A0_l ?_ | refine A1_l ?_ | refine Mk_l ?_ | refine Kz_l ?_ | refine W_l ?_ | refine SA_d ?_ | refine V_d ?_ | refine L_d ?_ | refine Q_d ?_ | refine X_d ?_ | refine Xs_d ?_ | refine K_d ?_ | refine Ka_d ?_ | refine Lk_d ?_ | refine Up_d ?_ | refine A_d ?_ | refine A0_d ?_ | refine St_d ?_ | refine LU_d ?_ | refine Xw_d ?_ | refine Le_d ?_ | refine Se_d ?_ | refine M_d ?_ | refine Mk_d ?_ | refine N_d ?_ | refine Kz_d ?_ | refine W_d ?_ | fail)
      exact ⟨rfl, rfl⟩
    · cases out with
      | nil =>
        refine wR (gI ?_)
        repeat' (first | ((first | refine C_r ?_ | refine C0_r ?_ | refine O_r ?_ | refine R_r ?_); (conv => whnf); first | (refine ⟨fun hb => ?_, fun hb => ?_⟩ <;> try exact no_way) | refine A_o ?_ | refine B_o ?_ | refine C_o ?_ | refine R_o ?_ | refine fR ?_ | refine fRk ?_ | refine F_o ?_) | refine SA_l ?_ | refine V_l ?_ | refine L_l ?_ | refine Q_l ?_ | refine X_l ?_ | refine Xa_l ?_ | refine Xs_l ?_ | refine K_l ?_ | refine Ka_l ?_ | refine Lk_l ?_ | refine Up_l ?_ | refine Del_l ?_ | refine St_l ?_ | refine LU_l ?_ | refine Xw_l ?_ | refine Le_l ?_ | refine Se_l ?_ | refine M_l ?_ | refine A_l ?_ | refine A0_l ?_ | refine A1_l ?_ | refine Mk_l ?_ | refine Kz_l ?_ | refine W_l ?_ | refine SA_d ?_ | refine V_d ?_ | refine L_d ?_ | refine Q_d ?_ | refine X_d ?_ | refine Xs_d ?_ | refine K_d ?_ | refine Ka_d ?_ | refine Lk_d ?_ | refine Up_d ?_ | refine A_d ?_ | refine A0_d ?_ | refine St_d ?_ | refine LU_d ?_ | refine Xw_d ?_ | refine Le_d ?_ | refine Se_d ?_ | refine M_d ?_ | refine Mk_d ?_ | refine N_d ?_ | refine Kz_d ?_ | refine W_d ?_ | fail)
        exact ⟨rfl, rfl⟩
      | cons a r =>
        have k1 : (((((a :: r).map strrow).length : Int)) == 0) = false := by rw [beq_eq_false_iff_ne, List.length_map, List.length_cons]; omega
        have g0 := at_of (f := strrow) (show (a :: r)[((0 : Int)).toNat]? = some a from rfl)
        have hrl : (a :: r).length = r.length + 1 := rfl
        generalize hall : a :: r = al at *
        refine wR (gI ?_)
        repeat' (first | ((first | refine C_r ?_ | refine C0_r ?_ | refine O_r ?_ | refine R_r ?_); (conv => whnf); first | (refine ⟨fun hb => ?_, fun hb => ?_⟩ <;> try exact no_way) | refine A_o ?_ | refine B_o ?_ | refine C_o ?_ | refine R_o ?_ | refine fR ?_ | refine fRk ?_ | refine F_o ?_) | refine SA_l ?_ | refine V_l ?_ | refine L_l ?_ | refine Q_l ?_ | refine X_l ?_ | refine Xa_l ?_ | refine Xs_l ?_ | refine K_l ?_ | refine Ka_l ?_ | refine Lk_l ?_ | refine Up_l ?_ | refine Del_l ?_ | refine St_l ?_ | refine LU_l ?_ | refine Xw_l ?_ | refine Le_l ?_ | refine Se_l ?_ | refine M_l ?_ | refine A_l ?_ | refine A0_l ?_ | refine A1_l ?_ | refine Mk_l ?_ | refine Kz_l ?_ | refine W_l ?_ | refine SA_d ?_ | refine V_d ?_ | refine L_d ?_ | refine Q_d ?_ | refine X_d ?_ | refine Xs_d ?_ | refine K_d ?_ | refine Ka_d ?_ | refine Lk_d ?_ | refine Up_d ?_ | refine A_d ?_ | refine A0_d ?_ | refine St_d ?_ | refine LU_d ?_ | refine Xw_d ?_ | refine Le_d ?_ | refine Se_d ?_ | refine M_d ?_ | refine Mk_d ?_ | refine N_d ?_ | refine Kz_d ?_ | refine W_d ?_ | fail)
        clear k1 g0 q hr
        refine wLoop [4, 6, 7] 0 (r.length + 1) ?_
        refine (fun key => key r [] _ _ rfl (join_one a).symm rfl :
          (∀ (rest done : List ByteArray) (sj : ByteArray) (jj : Int), r = done ++ rest → sj = joinB (a :: done) → jj = (done.length : Int) + 1 →
          WR2 _ _ _ _ _ (rest.length + 1) [(4, lst strrow al), (6, str sj), (7, int .i64 jj)] []) → _) ?_
        intro rest
        induction rest with
        | nil =>
          intro done2 sj jj h2 hsj hjj
          rw [List.append_nil] at h2
          subst h2
          subst hsj
          subst hjj
          subst hall
          have q : decide ((r.length : Int) + 1 < (((a :: r).map strrow).length : Int)) = false := by rw [decide_eq_false_iff_not, List.length_map, List.length_cons]; omega
          refine wR (gI ?_)
          repeat' (first | ((first | refine C_r ?_ | refine C0_r ?_ | refine O_r ?_ | refine R_r ?_); (conv => whnf); first | (refine ⟨fun hb => ?_, fun hb => ?_⟩ <;> try exact no_way) | refine A_o ?_ | refine B_o ?_ | refine C_o ?_ | refine R_o ?_ | refine fR ?_ | refine fRk ?_ | refine F_o ?_) | refine SA_l ?_ | refine V_l ?_ | refine L_l ?_ | refine Q_l ?_ | refine X_l ?_ | refine Xa_l ?_ | refine Xs_l ?_ | refine K_l ?_ | refine Ka_l ?_ | refine Lk_l ?_ | refine Up_l ?_ | refine Del_l ?_ | refine St_l ?_ | refine LU_l ?_ | refine Xw_l ?_ | refine Le_l ?_ | refine Se_l ?_ | refine M_l ?_ | refine A_l ?_ | refine A0_l ?_ | refine A1_l ?_ | refine Mk_l ?_ | refine Kz_l ?_ | refine W_l ?_ | refine SA_d ?_ | refine V_d ?_ | refine L_d ?_ | refine Q_d ?_ | refine X_d ?_ | refine Xs_d ?_ | refine K_d ?_ | refine Ka_d ?_ | refine Lk_d ?_ | refine Up_d ?_ | refine A_d ?_ | refine A0_d ?_ | refine St_d ?_ | refine LU_d ?_ | refine Xw_d ?_ | refine Le_d ?_ | refine Se_d ?_ | refine M_d ?_ | refine Mk_d ?_ | refine N_d ?_ | refine Kz_d ?_ | refine W_d ?_ | fail)
          exact ⟨rfl, rfl⟩
        | cons y rest ih =>
          intro done2 sj jj h2 hsj hjj
          subst hsj
          subst hjj
          have hl2 : r.length = done2.length + (rest.length + 1) := by rw [h2]; simp
          have q : decide ((done2.length : Int) + 1 < ((al.map strrow).length : Int)) = true := by rw [decide_eq_true_eq, List.length_map]; omega
          have hy : al[((done2.length : Int) + 1).toNat]? = some y := by
            rw [show ((done2.length : Int) + 1).toNat = done2.length + 1 from by omega, ← hall, h2]
            simp
          have g2 := at_of (f := strrow) hy
          have g := fun jj => ih (done2 ++ [y]) _ jj (by rw [h2]; simp) (join_snoc a done2 y).symm
          have e7 : IntKind.i64.wrap ((done2.length : Int) + 1 + 1) = (((done2 ++ [y]).length : Int) + 1) := by rw [wrap_ok (by omega) (by omega), List.length_append]; simp
          have z2 := hj al (done2.length + 2) rfl
          have z3 : al.take (done2.length + 2) = a :: (done2 ++ [y]) := by
            rw [← hall, h2, List.take_succ_cons, List.take_append, List.take_of_length_le (by omega), show done2.length + 1 - done2.length = 1 by omega]; rfl
          rw [z3, join_snoc] at z2
          have z4 : (joinB (a :: done2) ++ (⟨#[47]⟩ : ByteArray)).size + y.size ≤ 4294967296 := by rw [← ByteArray.size_append]; exact z2
          have z5 : (joinB (a :: done2)).size + (⟨#[47]⟩ : ByteArray).size ≤ 4294967296 := by rw [← ByteArray.size_append]; omega
          clear ih
          refine wR (gI ?_)
          repeat' (first | ((first | refine C_r ?_ | refine C0_r ?_ | refine O_r ?_ | refine R_r ?_); (conv => whnf); first | (refine ⟨fun hb => ?_, fun hb => ?_⟩ <;> try exact no_way) | refine A_o ?_ | refine B_o ?_ | refine C_o ?_ | refine R_o ?_ | refine fR ?_ | refine fRk ?_ | refine F_o ?_) | refine SA_l ?_ | refine V_l ?_ | refine L_l ?_ | refine Q_l ?_ | refine X_l ?_ | refine Xa_l ?_ | refine Xs_l ?_ | refine K_l ?_ | refine Ka_l ?_ | refine Lk_l ?_ | refine Up_l ?_ | refine Del_l ?_ | refine St_l ?_ | refine LU_l ?_ | refine Xw_l ?_ | refine Le_l ?_ | refine Se_l ?_ | refine M_l ?_ | refine A_l ?_ | refine A0_l ?_ | refine A1_l ?_ | refine Mk_l ?_ | refine Kz_l ?_ | refine W_l ?_ | refine SA_d ?_ | refine V_d ?_ | refine L_d ?_ | refine Q_d ?_ | refine X_d ?_ | refine Xs_d ?_ | refine K_d ?_ | refine Ka_d ?_ | refine Lk_d ?_ | refine Up_d ?_ | refine A_d ?_ | refine A0_d ?_ | refine St_d ?_ | refine LU_d ?_ | refine Xw_d ?_ | refine Le_d ?_ | refine Se_d ?_ | refine M_d ?_ | refine Mk_d ?_ | refine N_d ?_ | refine Kz_d ?_ | refine W_d ?_ | fail)
          exact rE (g _ e7)
  | cons x rest ih =>
    intro done out v hv h1 hr ho
    have hlen : ps.length = done.length + (rest.length + 1) := by rw [h1]; simp
    have q : decide ((done.length : Int) < ((ps.map strrow).length : Int)) = true := by rw [decide_eq_true_eq, List.length_map]; omega
    have hx : ps[((done.length : Nat) : Int).toNat]? = some x := by rw [h1]; simp
    have g2 := at_of (f := strrow) hx
    have e7 : IntKind.i64.wrap ((done.length : Int) + 1) = ((done.length + 1 : Nat) : Int) := by rw [wrap_ok (by omega) (by omega)]; omega
    have hol : out.length < 2 ^ 34 := by omega
    have hol2 : (out.map strrow).length < 2 ^ 34 := by rw [List.length_map]; omega
    have hnx := fun out2 v2 (hv : nilOr v2 out2) (h : fb = cleanW rest out2) (hl2 : out2.length ≤ done.length + 1) => ih (done ++ [x]) out2 v2 hv (by rw [h1]; simp) h (by rw [List.length_append]; exact hl2)
    rw [show (done ++ [x]).length = done.length + 1 from by simp] at hnx
    rw [cleanW] at hr
    clear ih
    rcases hv with ⟨rfl, rfl⟩ | rfl
    · refine wR (gI ?_)
      refine gRoom ?_
      repeat' (first | ((first | refine C_r ?_ | refine C0_r ?_ | refine O_r ?_ | refine R_r ?_); (conv => whnf); first | (refine ⟨fun hb => ?_, fun hb => ?_⟩ <;> try exact no_way) | refine A_o ?_ | refine B_o ?_ | refine C_o ?_ | refine R_o ?_ | refine fR ?_ | refine fRk ?_ | refine F_o ?_) | refine SA_l ?_ | refine V_l ?_ | refine L_l ?_ | refine Q_l ?_ | refine X_l ?_ | refine Xa_l ?_ | refine Xs_l ?_ | refine K_l ?_ | refine Ka_l ?_ | refine Lk_l ?_ | refine Up_l ?_ | refine Del_l ?_ | refine St_l ?_ | refine LU_l ?_ | refine Xw_l ?_ | refine Le_l ?_ | refine Se_l ?_ | refine M_l ?_ | refine A_l ?_ | refine A0_l ?_ | refine A1_l ?_ | refine Mk_l ?_ | refine Kz_l ?_ | refine W_l ?_ | refine A1_d ?_ | refine SA_d ?_ | refine V_d ?_ | refine L_d ?_ | refine Q_d ?_ | refine X_d ?_ | refine Xs_d ?_ | refine K_d ?_ | refine Ka_d ?_ | refine Lk_d ?_ | refine Up_d ?_ | refine A_d ?_ | refine A0_d ?_ | refine St_d ?_ | refine LU_d ?_ | refine Xw_d ?_ | refine Le_d ?_ | refine Se_d ?_ | refine M_d ?_ | refine Mk_d ?_ | refine N_d ?_ | refine Kz_d ?_ | refine W_d ?_ | fail)
      · rw [hb] at hr
        rw [e7]; exact rE (hnx [] _ (.inl ⟨rfl, rfl⟩) hr (by simp))
      · rw [hb, Bool.or_true] at hr
        rw [e7]; exact rE (hnx [] _ (.inl ⟨rfl, rfl⟩) hr (by simp))
      · simp only [‹(x == ⟨#[]⟩) = false›, ‹(x == ⟨#[46]⟩) = false›, Bool.or_false, cond_false, ‹(x == ⟨#[46, 46]⟩) = true›, List.isEmpty_nil, cond_true] at hr
        rw [hr]; exact ⟨rfl, rfl⟩
      · simp only [‹(x == ⟨#[]⟩) = false›, ‹(x == ⟨#[46]⟩) = false›, Bool.or_false, cond_false, ‹(x == ⟨#[46, 46]⟩) = false›] at hr
        have g := hnx ([] ++ [x]) _ (.inr rfl) hr (by simp)
        rw [e7]; exact rES 4 g
    · cases h0 : out.isEmpty with
      | true =>
        have ho0 : out = [] := List.isEmpty_iff.1 h0
        subst ho0
        refine wR (gI ?_)
        refine gRoom ?_
        repeat' (first | ((first | refine C_r ?_ | refine C0_r ?_ | refine O_r ?_ | refine R_r ?_); (conv => whnf); first | (refine ⟨fun hb => ?_, fun hb => ?_⟩ <;> try exact no_way) | refine A_o ?_ | refine B_o ?_ | refine C_o ?_ | refine R_o ?_ | refine fR ?_ | refine fRk ?_ | refine F_o ?_) | refine SA_l ?_ | refine V_l ?_ | refine L_l ?_ | refine Q_l ?_ | refine X_l ?_ | refine Xa_l ?_ | refine Xs_l ?_ | refine K_l ?_ | refine Ka_l ?_ | refine Lk_l ?_ | refine Up_l ?_ | refine Del_l ?_ | refine St_l ?_ | refine LU_l ?_ | refine Xw_l ?_ | refine Le_l ?_ | refine Se_l ?_ | refine M_l ?_ | refine A_l ?_ | refine A0_l ?_ | refine A1_l ?_ | refine Mk_l ?_ | refine Kz_l ?_ | refine W_l ?_ | refine A1_d ?_ | refine SA_d ?_ | refine V_d ?_ | refine L_d ?_ | refine Q_d ?_ | refine X_d ?_ | refine Xs_d ?_ | refine K_d ?_ | refine Ka_d ?_ | refine Lk_d ?_ | refine Up_d ?_ | refine A_d ?_ | refine A0_d ?_ | refine St_d ?_ | refine LU_d ?_ | refine Xw_d ?_ | refine Le_d ?_ | refine Se_d ?_ | refine M_d ?_ | refine Mk_d ?_ | refine N_d ?_ | refine Kz_d ?_ | refine W_d ?_ | fail)
        · rw [hb] at hr
          rw [e7]; exact rE (hnx [] _ (.inr rfl) hr (by simp))
        · rw [hb, Bool.or_true] at hr
          rw [e7]; exact rE (hnx [] _ (.inr rfl) hr (by simp))
        · simp only [‹(x == ⟨#[]⟩) = false›, ‹(x == ⟨#[46]⟩) = false›, Bool.or_false, cond_false, ‹(x == ⟨#[46, 46]⟩) = true›, List.isEmpty_nil, cond_true] at hr
          rw [hr]; exact ⟨rfl, rfl⟩
        · simp only [‹(x == ⟨#[]⟩) = false›, ‹(x == ⟨#[46]⟩) = false›, Bool.or_false, cond_false, ‹(x == ⟨#[46, 46]⟩) = false›] at hr
          have g := hnx ([] ++ [x]) _ (.inr rfl) hr (by simp)
          rw [e7]; exact rES 4 g
      | false =>
        have hpos : 0 < out.length := by
          cases out with
          | nil => cases h0
          | cons a b => simp
        have k1 : ((((out.map strrow).length : Int)) == 0) = false := by rw [beq_eq_false_iff_ne, List.length_map]; omega
        have k2 := drop_rows out hpos (by omega)
        have k4 : 0 ≤ IntKind.i64.wrap (((out.map strrow).length : Int) - 1) := by rw [List.length_map, wrap_ok (by omega) (by omega)]; omega
        have k5 : IntKind.i64.wrap (((out.map strrow).length : Int) - 1) ≤ (out.map strrow).length := by rw [List.length_map, wrap_ok (by omega) (by omega)]; omega
        refine wR (gI ?_)
        refine gRoom ?_
        repeat' (first | ((first | refine C_r ?_ | refine C0_r ?_ | refine O_r ?_ | refine R_r ?_); (conv => whnf); first | (refine ⟨fun hb => ?_, fun hb => ?_⟩ <;> try exact no_way) | refine A_o ?_ | refine B_o ?_ | refine C_o ?_ | refine R_o ?_ | refine fR ?_ | refine fRk ?_ | refine F_o ?_) | refine K_l ?_ (a := none) (b := some (IntKind.i64.wrap (((out.map strrow).length : Int) - 1))) (rows' := out.dropLast.map strrow) (h1 := Int.le_refl 0) (h2 := k4) (h3 := k5) (hr := k2) | refine SA_l ?_ | refine V_l ?_ | refine L_l ?_ | refine Q_l ?_ | refine X_l ?_ | refine Xa_l ?_ | refine Xs_l ?_ | refine K_l ?_ | refine Ka_l ?_ | refine Lk_l ?_ | refine Up_l ?_ | refine Del_l ?_ | refine St_l ?_ | refine LU_l ?_ | refine Xw_l ?_ | refine Le_l ?_ | refine Se_l ?_ | refine M_l ?_ | refine A_l ?_ | refine A0_l ?_ | refine A1_l ?_ | refine Mk_l ?_ | refine Kz_l ?_ | refine W_l ?_ | refine A1_d ?_ | refine SA_d ?_ | refine V_d ?_ | refine L_d ?_ | refine Q_d ?_ | refine X_d ?_ | refine Xs_d ?_ | refine K_d ?_ | refine Ka_d ?_ | refine Lk_d ?_ | refine Up_d ?_ | refine A_d ?_ | refine A0_d ?_ | refine St_d ?_ | refine LU_d ?_ | refine Xw_d ?_ | refine Le_d ?_ | refine Se_d ?_ | refine M_d ?_ | refine Mk_d ?_ | refine N_d ?_ | refine Kz_d ?_ | refine W_d ?_ | fail)
        · rw [hb] at hr
          rw [e7]; exact rE (hnx out _ (.inr rfl) hr (by omega))
        · rw [hb, Bool.or_true] at hr
          rw [e7]; exact rE (hnx out _ (.inr rfl) hr (by omega))
        · simp only [‹(x == ⟨#[]⟩) = false›, ‹(x == ⟨#[46]⟩) = false›, Bool.or_false, cond_false, ‹(x == ⟨#[46, 46]⟩) = true›, h0, cond_true] at hr
          rw [e7]; exact rE (hnx out.dropLast _ (.inr rfl) hr (by rw [List.length_dropLast]; omega))
        · simp only [‹(x == ⟨#[]⟩) = false›, ‹(x == ⟨#[46]⟩) = false›, Bool.or_false, cond_false, ‹(x == ⟨#[46, 46]⟩) = false›] at hr
          have g := hnx (out ++ [x]) _ (.inr rfl) hr (by rw [List.length_append, List.length_singleton]; omega)
          unfold lst at g
          rw [List.map_append] at g
          rw [e7]; exact rES 4 g
end Go.Proofs.YtcmhpjnafkpofaaDoor
