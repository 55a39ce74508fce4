/- A part of a proof: functions of the program, walked over the abstract machine. -/
import Derived.Test.YtcmhpjnafkpofaaDoorSpot1
set_option linter.unusedVariables false
set_option linter.unusedSimpArgs false
namespace Go.Proofs.YtcmhpjnafkpofaaDoor
open Go Go.Am Go.Proofs
attribute [local irreducible] W WL DL WO RoundEnd
set_option maxRecDepth 10000
set_option maxHeartbeats 4000000
/-- a place within bounds -/
def capF (i : Int) (n : Nat) : Nat := if i < 0 then 0 else if (n : Int) < i then n else i.toNat
def atF (s : ByteArray) (i : Int) : Nat × Nat := walkF (1, 1) (s.data.toList.take (capF i s.size))
theorem capR [GVals] (n lo hi : Int) : Comp Tryd.prog 46 [int .i64 n, int .i64 lo, int .i64 hi] (int .i64 (if n < lo then lo else if n > hi then hi else n)) := by
  refine Spec.body (C := cx [] 18) fits (fn := Tryd.f46) Tryd.func46 rfl (by decide) (by decide) (gI ?_)
  repeat' (first | ((first | refine C_r ?_ | refine C0_r ?_ | refine O_r ?_ | refine R_r ?_); (conv => whnf); first | (refine ⟨fun hb => ?_, fun hb => ?_⟩ <;> try exact no_way) | refine A_o ?_ | refine B_o ?_ | refine C_o ?_ | refine R_o ?_ | refine fR ?_ | refine fRk ?_ | refine F_o ?_) | refine SA_l ?_ | refine V_l ?_ | refine L_l ?_ | refine Q_l ?_ | refine X_l ?_ | refine Xa_l ?_ | refine Xs_l ?_ | refine K_l ?_ | refine Ka_l ?_ | refine Lk_l ?_ | refine Up_l ?_ | refine Del_l ?_ | refine St_l ?_ | refine LU_l ?_ | refine Xw_l ?_ | refine Le_l ?_ | refine Se_l ?_ | refine M_l ?_ | refine A_l ?_ | refine A0_l ?_ | refine A1_l ?_ | refine Mk_l ?_ | refine Kz_l ?_ | refine W_l ?_ | fail)
  · have h : n < lo := of_decide_eq_true hb
    exact ⟨by rw [if_pos h]; rfl, rfl⟩
  · have h : ¬ n < lo := of_decide_eq_false (by assumption)
    have h2 : n > hi := of_decide_eq_true hb
    exact ⟨by rw [if_neg h, if_pos h2]; rfl, rfl⟩
  · have h : ¬ n < lo := of_decide_eq_false (by assumption)
    have h2 : ¬ n > hi := of_decide_eq_false hb
    exact ⟨by rw [if_neg h, if_neg h2]; rfl, rfl⟩
theorem atRefR [GVals] (s : ByteArray) (i : Int) (hs : s.size < 2 ^ 49) : Comp Tryd.prog 33 [str s, int .i64 i] (.tup [.one (.d (.sc (.int .i64 (atF s i).1))), .one (.d (.sc (.int .i64 (atF s i).2)))]) := by
  have hk : (if i < 0 then (0 : Int) else if i > (s.size : Int) then (s.size : Int) else i) = (capF i s.size : Int) := by
    unfold capF
    split <;> (try split) <;> omega
  have hcl : capF i s.size ≤ s.size := by unfold capF; split <;> (try split) <;> omega
  have c1 := capR i 0 s.size
  rw [hk] at c1
  have hsz : s.size = s.data.toList.length := rfl
  have hd : s.data.toList = s.data.toList.take (capF i s.size) ++ s.data.toList.drop (capF i s.size) := (List.take_append_drop _ _).symm
  have htl : (s.data.toList.take (capF i s.size)).length = capF i s.size := by rw [List.length_take]; omega
  generalize hfb : atF s i = fb
  unfold atF at hfb
  generalize capF i s.size = n at *
  generalize s.data.toList.take n = tk at *
  generalize s.data.toList.drop n = dr at *
  refine Spec.body (C := cx [] 27) fits (fn := Tryd.f33) Tryd.func33 rfl (by decide) (by decide) (gI ?_)
  repeat' (first | ((first | refine C_r ?_ | refine C0_r ?_ | refine O_r ?_ | refine R_r ?_); (conv => whnf); first | (refine ⟨fun hb => ?_, fun hb => ?_⟩ <;> try exact no_way) | refine A_o ?_ | refine B_o ?_ | refine C_o ?_ | refine R_o ?_ | refine fR ?_ | refine fRk ?_ | refine F_o ?_) | refine SA_l ?_ | refine V_l ?_ | refine L_l ?_ | refine Q_l ?_ | refine X_l ?_ | refine Xa_l ?_ | refine Xs_l ?_ | refine K_l ?_ | refine Ka_l ?_ | refine Lk_l ?_ | refine Up_l ?_ | refine Del_l ?_ | refine St_l ?_ | refine LU_l ?_ | refine Xw_l ?_ | refine Le_l ?_ | refine Se_l ?_ | refine M_l ?_ | refine A_l ?_ | refine A0_l ?_ | refine A1_l ?_ | refine Mk_l ?_ | refine Kz_l ?_ | refine W_l ?_ | fail)
  refine wLoop [0, 1, 6, 7, 8] 0 (tk.length + 1) ?_
  refine (fun key => key tk [] _ (1, 1) rfl rfl hfb.symm ⟨Nat.le_refl _, Nat.le_refl _⟩ :
    (∀ (rest done : List UInt8) (j : Int) (p : Nat × Nat), tk = done ++ rest → j = done.length → fb = walkF p rest → p.1 ≤ done.length + 1 ∧ p.2 ≤ done.length + 1 →
    WR2 _ _ _ _ _ (rest.length + 1) [(0, str s), (1, int .i64 i), (6, int .i64 p.1), (7, int .i64 p.2), (8, int .i64 j)] []) → _) ?_
  intro rest
  induction rest with
  | nil =>
    intro done j p h1 hj hr hp
    have hlen : tk.length = done.length := by rw [h1]; simp
    have hr : fb = p := hr
    subst hr
    refine wR (gI ?_)
    repeat' (first | ((first | refine C_r ?_ | refine C0_r ?_ | refine O_r ?_ | refine R_r ?_); (conv => whnf); first | (refine ⟨fun hb => ?_, fun hb => ?_⟩ <;> try exact no_way) | refine A_o ?_ | refine B_o ?_ | refine C_o ?_ | refine R_o ?_ | refine fR ?_ | refine fRk ?_ | refine F_o ?_) | refine C_l (c1) ?_ | refine SA_l ?_ | refine V_l ?_ | refine L_l ?_ | refine Q_l ?_ | refine X_l ?_ | refine Xa_l ?_ | refine Xs_l ?_ | refine K_l ?_ | refine Ka_l ?_ | refine Lk_l ?_ | refine Up_l ?_ | refine Del_l ?_ | refine St_l ?_ | refine LU_l ?_ | refine Xw_l ?_ | refine Le_l ?_ | refine Se_l ?_ | refine M_l ?_ | refine A_l ?_ | refine A0_l ?_ | refine A1_l ?_ | refine Mk_l ?_ | refine Kz_l ?_ | refine W_l ?_ | fail)
    exact ⟨rfl, rfl⟩
  | cons b rest ih =>
    intro done j p h1 hj hr hp
    have hlen : tk.length = done.length + (rest.length + 1) := by rw [h1]; simp
    have gx : s.data.toList[j.toNat]? = some b := bs_mid (done := done) (rest := rest ++ dr) (by rw [hd, h1]; simp) hj
    have hr : fb = walkF (stepF p b) rest := hr
    have e1 : IntKind.wrap .i64 ((p.2 : Int) + 1) = ((p.2 + 1 : Nat) : Int) := by rw [wrap_ok (by omega) (by omega)]; rfl
    have e2 : IntKind.wrap .i64 ((p.1 : Int) + 1) = ((p.1 + 1 : Nat) : Int) := by rw [wrap_ok (by omega) (by omega)]; rfl
    have hj1 : IntKind.wrap .i64 (j + 1) = ((done ++ [b]).length : Int) := by rw [wrap_ok (by omega) (by omega)]; simp [hj]
    have hl1 : tk = (done ++ [b]) ++ rest := by rw [h1]; simp
    have hb10 : ((b.toNat : Int) == 10) = decide (b = 10) := by
      by_cases h : b = 10
      · subst h; rfl
      · rw [decide_eq_false h, beq_eq_false_iff_ne]
        intro h2
        exact h (UInt8.toNat_inj.1 (by have : (10 : UInt8).toNat = 10 := rfl; omega))
    obtain ⟨p1, p2⟩ := p
    simp only at e1 e2 hp
    unfold stepF at hr
    by_cases hb0 : b = 10
    · rw [if_pos hb0] at hr
      have b1 : ((b.toNat : Int) == 10) = true := by rw [hb10, decide_eq_true hb0]
      have g := ih (done ++ [b]) _ (p1 + 1, 1) hl1 hj1 hr (by simp; omega)
      simp only [← e2] at g
      refine wR (gI ?_)
      repeat' (first | ((first | refine C_r ?_ | refine C0_r ?_ | refine O_r ?_ | refine R_r ?_); (conv => whnf); first | (refine ⟨fun hb => ?_, fun hb => ?_⟩ <;> try exact no_way) | refine A_o ?_ | refine B_o ?_ | refine C_o ?_ | refine R_o ?_ | refine fR ?_ | refine fRk ?_ | refine F_o ?_) | refine C_l (c1) ?_ | refine SA_l ?_ | refine V_l ?_ | refine L_l ?_ | refine Q_l ?_ | refine X_l ?_ | refine Xa_l ?_ | refine Xs_l ?_ | refine K_l ?_ | refine Ka_l ?_ | refine Lk_l ?_ | refine Up_l ?_ | refine Del_l ?_ | refine St_l ?_ | refine LU_l ?_ | refine Xw_l ?_ | refine Le_l ?_ | refine Se_l ?_ | refine M_l ?_ | refine A_l ?_ | refine A0_l ?_ | refine A1_l ?_ | refine Mk_l ?_ | refine Kz_l ?_ | refine W_l ?_ | fail)
      exact rE g
    · rw [if_neg hb0] at hr
      have b1 : ((b.toNat : Int) == 10) = false := by rw [hb10, decide_eq_false hb0]
      have g := ih (done ++ [b]) _ (p1, p2 + 1) hl1 hj1 hr (by simp; omega)
      simp only [← e1] at g
      refine wR (gI ?_)
      repeat' (first | ((first | refine C_r ?_ | refine C0_r ?_ | refine O_r ?_ | refine R_r ?_); (conv => whnf); first | (refine ⟨fun hb => ?_, fun hb => ?_⟩ <;> try exact no_way) | refine A_o ?_ | refine B_o ?_ | refine C_o ?_ | refine R_o ?_ | refine fR ?_ | refine fRk ?_ | refine F_o ?_) | refine C_l (c1) ?_ | refine SA_l ?_ | refine V_l ?_ | refine L_l ?_ | refine Q_l ?_ | refine X_l ?_ | refine Xa_l ?_ | refine Xs_l ?_ | refine K_l ?_ | refine Ka_l ?_ | refine Lk_l ?_ | refine Up_l ?_ | refine Del_l ?_ | refine St_l ?_ | refine LU_l ?_ | refine Xw_l ?_ | refine Le_l ?_ | refine Se_l ?_ | refine M_l ?_ | refine A_l ?_ | refine A0_l ?_ | refine A1_l ?_ | refine Mk_l ?_ | refine Kz_l ?_ | refine W_l ?_ | fail)
      exact rE g
theorem spotR [GVals] (y x : Nat) : Comp Tryd.prog 34 [int .i64 y, int .i64 x] (spotV (y, x)) := by
  refine Spec.body (C := cx [] 10) fits (fn := Tryd.f34) Tryd.func34 rfl (by decide) (by decide) (gI ?_)
  repeat' (first | ((first | refine C_r ?_ | refine C0_r ?_ | refine O_r ?_ | refine R_r ?_); (conv => whnf); first | (refine ⟨fun hb => ?_, fun hb => ?_⟩ <;> try exact no_way) | refine A_o ?_ | refine B_o ?_ | refine C_o ?_ | refine R_o ?_ | refine fR ?_ | refine fRk ?_ | refine F_o ?_) | refine SA_l ?_ | refine V_l ?_ | refine L_l ?_ | refine Q_l ?_ | refine X_l ?_ | refine Xa_l ?_ | refine Xs_l ?_ | refine K_l ?_ | refine Ka_l ?_ | refine Lk_l ?_ | refine Up_l ?_ | refine Del_l ?_ | refine St_l ?_ | refine LU_l ?_ | refine Xw_l ?_ | refine Le_l ?_ | refine Se_l ?_ | refine M_l ?_ | refine A_l ?_ | refine A0_l ?_ | refine A1_l ?_ | refine Mk_l ?_ | refine Kz_l ?_ | refine W_l ?_ | fail)
  exact ⟨by simp only [nearest_F, Int.toNat_natCast]; rfl, rfl⟩
end Go.Proofs.YtcmhpjnafkpofaaDoor
