/- The law FilesClean. -/
import Derived.Test.YtcmhpjnafkpofaaDoorFl9
set_option linter.unusedVariables false
set_option linter.unusedSimpArgs false
namespace Go.Proofs.YtcmhpjnafkpofaaDoor
open Go Go.Am Go.Proofs
attribute [local irreducible] W WL DL WO RoundEnd
set_option maxRecDepth 10000
set_option maxHeartbeats 4000000
set_option linter.unusedVariables false
set_option linter.unusedSimpArgs false
theorem clean_size (s : ByteArray) : (cleanA s).1.size ≤ s.size + 1 := by
  unfold cleanA
  cases hc : cleanW (pieces s) [] with
  | none => exact Nat.zero_le _
  | some l =>
    cases l with
    | nil => exact Nat.zero_le _
    | cons a r =>
      have h1 := wt_clean _ _ _ hc
      have h2 := join_size (a :: r)
      rw [wt_pieces, show wt [] = 0 from rfl] at h1
      show (joinB (a :: r)).size ≤ _
      omega
theorem ba_app (x y z : ByteArray) : x ++ y ++ z = x ++ (y ++ z) := ByteArray.append_assoc
theorem up_next (x : ByteArray) (n : Nat) : x ++ ba (upL n) ++ ⟨#[47, 46, 46]⟩ = x ++ ba (upL (n + 1)) := by
  rw [ba_app]
  congr 1
theorem up_cut (x : ByteArray) (n : Nat) : (x ++ ba (upL n)).extract x.size (x ++ ba (upL n)).size = ba (upL n) := by
  have h : ((x ++ ba (upL n)).extract x.size (x ++ ba (upL n)).size).data.toList = upL n := by
    have hx : x.data.toList.length = x.size := rfl
    rw [Lib.extract_data, app_list, ← hx, List.drop_left, List.take_of_length_le]
    · rfl
    · rw [ByteArray.size_append]
      show (upL n).length ≤ x.size + (upL n).length - x.size
      omega
  rw [← ba_of ((x ++ ba (upL n)).extract x.size (x ++ ba (upL n)).size), h]
theorem cleanNo [GVals] (a b : ByteArray) (h : decide ((a.size : Int) > 100) = true ∨ decide ((b.size : Int) > 100) = true) : Comp Tryd.prog 4 [str a, str b] (Am.bool true) := by
  have c0 := alive8
  cases h1 : decide ((a.size : Int) > 100) with
  | true =>
    refine Spec.body (C := cx [] 118) fits (fn := Tryd.f4) Tryd.func4 rfl (by decide) (by decide) (gI ?_)
    repeat' (first | ((first | refine C_r ?_ | refine C0_r ?_ | refine O_r ?_ | refine R_r ?_); (conv => whnf); first | (refine ⟨fun hb => ?_, fun hb => ?_⟩ <;> try exact no_way) | refine A_o ?_ | refine B_o ?_ | refine C_o ?_ | refine R_o ?_ | refine fR ?_ | refine fRk ?_ | refine F_o ?_) | refine C_l (c0) ?_ | refine SA_l ?_ | refine V_l ?_ | refine L_l ?_ | refine Q_l ?_ | refine X_l ?_ | refine Xa_l ?_ | refine Xs_l ?_ | refine K_l ?_ | refine Ka_l ?_ | refine Lk_l ?_ | refine Up_l ?_ | refine Del_l ?_ | refine St_l ?_ | refine LU_l ?_ | refine Xw_l ?_ | refine Le_l ?_ | refine Se_l ?_ | refine M_l ?_ | refine A_l ?_ | refine A0_l ?_ | refine A1_l ?_ | refine Mk_l ?_ | refine Kz_l ?_ | refine W_l ?_ | refine C_d (c0) ?_ | refine SA_d ?_ | refine V_d ?_ | refine L_d ?_ | refine Q_d ?_ | refine X_d ?_ | refine Xs_d ?_ | refine K_d ?_ | refine Ka_d ?_ | refine Lk_d ?_ | refine Up_d ?_ | refine A_d ?_ | refine A0_d ?_ | refine St_d ?_ | refine LU_d ?_ | refine Xw_d ?_ | refine Le_d ?_ | refine Se_d ?_ | refine M_d ?_ | refine Mk_d ?_ | refine N_d ?_ | refine Kz_d ?_ | refine W_d ?_ | fail)
    all_goals exact ⟨rfl, rfl⟩
  | false =>
    have h2 : decide ((b.size : Int) > 100) = true := by rw [h1] at h; simpa using h
    refine Spec.body (C := cx [] 118) fits (fn := Tryd.f4) Tryd.func4 rfl (by decide) (by decide) (gI ?_)
    repeat' (first | ((first | refine C_r ?_ | refine C0_r ?_ | refine O_r ?_ | refine R_r ?_); (conv => whnf); first | (refine ⟨fun hb => ?_, fun hb => ?_⟩ <;> try exact no_way) | refine A_o ?_ | refine B_o ?_ | refine C_o ?_ | refine R_o ?_ | refine fR ?_ | refine fRk ?_ | refine F_o ?_) | refine C_l (c0) ?_ | refine SA_l ?_ | refine V_l ?_ | refine L_l ?_ | refine Q_l ?_ | refine X_l ?_ | refine Xa_l ?_ | refine Xs_l ?_ | refine K_l ?_ | refine Ka_l ?_ | refine Lk_l ?_ | refine Up_l ?_ | refine Del_l ?_ | refine St_l ?_ | refine LU_l ?_ | refine Xw_l ?_ | refine Le_l ?_ | refine Se_l ?_ | refine M_l ?_ | refine A_l ?_ | refine A0_l ?_ | refine A1_l ?_ | refine Mk_l ?_ | refine Kz_l ?_ | refine W_l ?_ | refine C_d (c0) ?_ | refine SA_d ?_ | refine V_d ?_ | refine L_d ?_ | refine Q_d ?_ | refine X_d ?_ | refine Xs_d ?_ | refine K_d ?_ | refine Ka_d ?_ | refine Lk_d ?_ | refine Up_d ?_ | refine A_d ?_ | refine A0_d ?_ | refine St_d ?_ | refine LU_d ?_ | refine Xw_d ?_ | refine Le_d ?_ | refine Se_d ?_ | refine M_d ?_ | refine Mk_d ?_ | refine N_d ?_ | refine Kz_d ?_ | refine W_d ?_ | fail)
    all_goals exact ⟨rfl, rfl⟩
theorem filesClean [GVals] (a b : ByteArray) : Comp Tryd.prog 4 [str a, str b] (Am.bool true) := by
  by_cases hlen : decide ((a.size : Int) > 100) = true ∨ decide ((b.size : Int) > 100) = true
  · exact cleanNo a b hlen
  have h1 : decide ((a.size : Int) > 100) = false := by cases h : decide ((a.size : Int) > 100) with
    | true => exact absurd (.inl h) hlen
    | false => rfl
  have h2 : decide ((b.size : Int) > 100) = false := by cases h : decide ((b.size : Int) > 100) with
    | true => exact absurd (.inr h) hlen
    | false => rfl
  have ha : a.size ≤ 100 := by have := of_decide_eq_false h1; omega
  have hb : b.size ≤ 100 := by have := of_decide_eq_false h2; omega
  have c0 := alive8
  have c1 := cleanR a (by omega)
  have c2 := cleanR b (by omega)
  have hxs := clean_size a
  have hys := clean_size b
  cases hx : cleanA a with
  | mk x ok =>
  cases hy : cleanA b with
  | mk y is =>
  rw [hx] at c1 hxs
  rw [hy] at c2 hys
  dsimp only at c1 c2 hxs hys
  cases ok with
  | false =>
    have hx0 : x = ⟨#[]⟩ := by
      unfold cleanA at hx
      split at hx
      · cases hx
      · exact (congrArg Prod.fst hx).symm
    subst hx0
    refine Spec.body (C := cx [] 118) fits (fn := Tryd.f4) Tryd.func4 rfl (by decide) (by decide) (gI ?_)
    repeat' (first | ((first | refine C_r ?_ | refine C0_r ?_ | refine O_r ?_ | refine R_r ?_); (conv => whnf); first | (refine ⟨fun hb => ?_, fun hb => ?_⟩ <;> try exact no_way) | refine A_o ?_ | refine B_o ?_ | refine C_o ?_ | refine R_o ?_ | refine fR ?_ | refine fRk ?_ | refine F_o ?_) | refine C_l (c0) ?_ | refine C_l (c1) ?_ | refine C_l (c2) ?_ | refine SA_l ?_ | refine V_l ?_ | refine L_l ?_ | refine Q_l ?_ | refine X_l ?_ | refine Xa_l ?_ | refine Xs_l ?_ | refine K_l ?_ | refine Ka_l ?_ | refine Lk_l ?_ | refine Up_l ?_ | refine Del_l ?_ | refine St_l ?_ | refine LU_l ?_ | refine Xw_l ?_ | refine Le_l ?_ | refine Se_l ?_ | refine M_l ?_ | refine A_l ?_ | refine A0_l ?_ | refine A1_l ?_ | refine Mk_l ?_ | refine Kz_l ?_ | refine W_l ?_ | refine C_d (c0) ?_ | refine C_d (c1) ?_ | refine C_d (c2) ?_ | refine SA_d ?_ | refine V_d ?_ | refine L_d ?_ | refine Q_d ?_ | refine X_d ?_ | refine Xs_d ?_ | refine K_d ?_ | refine Ka_d ?_ | refine Lk_d ?_ | refine Up_d ?_ | refine A_d ?_ | refine A0_d ?_ | refine St_d ?_ | refine LU_d ?_ | refine Xw_d ?_ | refine Le_d ?_ | refine Se_d ?_ | refine M_d ?_ | refine Mk_d ?_ | refine N_d ?_ | refine Kz_d ?_ | refine W_d ?_ | fail)
    all_goals exact ⟨rfl, rfl⟩
  | true =>
  cases is with
  | false =>
    refine Spec.body (C := cx [] 118) fits (fn := Tryd.f4) Tryd.func4 rfl (by decide) (by decide) (gI ?_)
    repeat' (first | ((first | refine C_r ?_ | refine C0_r ?_ | refine O_r ?_ | refine R_r ?_); (conv => whnf); first | (refine ⟨fun hb => ?_, fun hb => ?_⟩ <;> try exact no_way) | refine A_o ?_ | refine B_o ?_ | refine C_o ?_ | refine R_o ?_ | refine fR ?_ | refine fRk ?_ | refine F_o ?_) | refine C_l (c0) ?_ | refine C_l (c1) ?_ | refine C_l (c2) ?_ | refine SA_l ?_ | refine V_l ?_ | refine L_l ?_ | refine Q_l ?_ | refine X_l ?_ | refine Xa_l ?_ | refine Xs_l ?_ | refine K_l ?_ | refine Ka_l ?_ | refine Lk_l ?_ | refine Up_l ?_ | refine Del_l ?_ | refine St_l ?_ | refine LU_l ?_ | refine Xw_l ?_ | refine Le_l ?_ | refine Se_l ?_ | refine M_l ?_ | refine A_l ?_ | refine A0_l ?_ | refine A1_l ?_ | refine Mk_l ?_ | refine Kz_l ?_ | refine W_l ?_ | refine C_d (c0) ?_ | refine C_d (c1) ?_ | refine C_d (c2) ?_ | refine SA_d ?_ | refine V_d ?_ | refine L_d ?_ | refine Q_d ?_ | refine X_d ?_ | refine Xs_d ?_ | refine K_d ?_ | refine Ka_d ?_ | refine Lk_d ?_ | refine Up_d ?_ | refine A_d ?_ | refine A0_d ?_ | refine St_d ?_ | refine LU_d ?_ | refine Xw_d ?_ | refine Le_d ?_ | refine Se_d ?_ | refine M_d ?_ | refine Mk_d ?_ | refine N_d ?_ | refine Kz_d ?_ | refine W_d ?_ | fail)
    all_goals first | exact ⟨rfl, rfl⟩ | trace_state
  | true =>
    have hup := up_back hx hy
    have hroot := join_root x b
    have hag := clean_again hx
    have c3 := cleanR x (by omega)
    rw [hag] at c3
    have hul := up_len (cntU 0 y.data.toList)
    generalize hN : cntU 0 y.data.toList = N at *
    have hyl : y.data.toList.length = y.size := rfl
    have hNle : N ≤ y.size := by
      rw [← hN, ← hyl]
      have : ∀ (l : List UInt8) (i : Nat), cntU i l ≤ l.length := by
        intro l
        induction l with
        | nil => intro i; exact Nat.le_refl _
        | cons c r ih => intro i; have := ih (i + 1); rw [cntU, List.length_cons]; split <;> omega
      exact this _ _
    have hsl : slash.size = 1 := rfl
    have hbu : (ba (upL N)).size = 3 * N := hul
    have c4 := cleanR (x ++ slash ++ y ++ ba (upL N)) (by rw [ByteArray.size_append, ByteArray.size_append, ByteArray.size_append]; omega)
    rw [hup] at c4
    have c5 := filesJoinR x (slash ++ b) (by omega) (by rw [ByteArray.size_append]; omega)
    rw [hroot, hy] at c5
    clear hup hroot hag hx hy hlen h1 h2 c0
    have e1 : (x == x) = true := ba_refl x
    have e2 : (y == y) = true := ba_refl y
    have h1 : decide ((a.size : Int) > 100) = false := decide_eq_false (by omega)
    have h2 : decide ((b.size : Int) > 100) = false := decide_eq_false (by omega)
    have c0 := alive8
    refine Spec.body (C := cx [] 118) fits (fn := Tryd.f4) Tryd.func4 rfl (by decide) (by decide) (gI ?_)
    repeat' (first | ((first | refine C_r ?_ | refine C0_r ?_ | refine O_r ?_ | refine R_r ?_); (conv => whnf); first | (refine ⟨fun hb => ?_, fun hb => ?_⟩ <;> try exact no_way) | refine A_o ?_ | refine B_o ?_ | refine C_o ?_ | refine R_o ?_ | refine fR ?_ | refine fRk ?_ | refine F_o ?_) | refine C_l (c0) ?_ | refine C_l (c1) ?_ | refine C_l (c2) ?_ | refine C_l (c3) ?_ | refine SA_l ?_ | refine V_l ?_ | refine L_l ?_ | refine Q_l ?_ | refine X_l ?_ | refine Xa_l ?_ | refine Xs_l ?_ | refine K_l ?_ | refine Ka_l ?_ | refine Lk_l ?_ | refine Up_l ?_ | refine Del_l ?_ | refine St_l ?_ | refine LU_l ?_ | refine Xw_l ?_ | refine Le_l ?_ | refine Se_l ?_ | refine M_l ?_ | refine A_l ?_ | refine A0_l ?_ | refine A1_l ?_ | refine Mk_l ?_ | refine Kz_l ?_ | refine W_l ?_ | refine C_d (c0) ?_ | refine C_d (c1) ?_ | refine C_d (c2) ?_ | refine C_d (c3) ?_ | refine SA_d ?_ | refine V_d ?_ | refine L_d ?_ | refine Q_d ?_ | refine X_d ?_ | refine Xs_d ?_ | refine K_d ?_ | refine Ka_d ?_ | refine Lk_d ?_ | refine Up_d ?_ | refine A_d ?_ | refine A0_d ?_ | refine St_d ?_ | refine LU_d ?_ | refine Xw_d ?_ | refine Le_d ?_ | refine Se_d ?_ | refine M_d ?_ | refine Mk_d ?_ | refine N_d ?_ | refine Kz_d ?_ | refine W_d ?_ | fail)
    clear c0 c1 c2 c3
    have hz0 : (⟨#[47]⟩ : ByteArray).size = 1 := rfl
    have hz1 : x.size + (⟨#[47]⟩ : ByteArray).size ≤ 1000 := by omega
    have hz2 : (x ++ (⟨#[47]⟩ : ByteArray)).size + y.size ≤ 1000 := by rw [ByteArray.size_append]; omega
    have hz3 : (x ++ (⟨#[47]⟩ : ByteArray) ++ y).size + (ba (upL N)).size ≤ 1000 := by rw [ByteArray.size_append, ByteArray.size_append]; omega
    have hz4 : (⟨#[47]⟩ : ByteArray).size + b.size ≤ 1000 := by omega
    refine wLoop [1, 6, 8, 10, 11, 12, 13] 0 (y.data.toList.length + 1) ?_
    refine (fun key => key y.data.toList [] 0 x 0 rfl rfl (by show x = x ++ ba []; exact (ByteArray.append_empty).symm) (by rw [Nat.zero_add]; exact hN) :
      (∀ (rest done : List UInt8) (n : Nat) (u : ByteArray) (j : Int), y.data.toList = done ++ rest → j = done.length → u = x ++ ba (upL n) → n + cntU done.length rest = N →
      WR2 _ _ _ _ _ (rest.length + 1) [(1, str b), (6, str x), (8, str y), (10, str x), (11, Am.bool true), (12, str u), (13, int .i64 j)] []) → _) ?_
    intro rest
    induction rest with
    | nil =>
      intro done n u j h1 hj hu hn
      have hlen : y.data.toList.length = done.length := by rw [h1]; simp
      have q : decide (j < (y.size : Int)) = false := by rw [decide_eq_false_iff_not]; omega
      have hn : n = N := hn
      subst hn
      subst hu
      have hcut := up_cut x n
      have husz : (x ++ ba (upL n)).size = x.size + (ba (upL n)).size := ByteArray.size_append
      refine wR (gI ?_)
      repeat' (first | ((first | refine C_r ?_ | refine C0_r ?_ | refine O_r ?_ | refine R_r ?_); (conv => whnf); first | (refine ⟨fun hb => ?_, fun hb => ?_⟩ <;> try exact no_way) | refine A_o ?_ | refine B_o ?_ | refine C_o ?_ | refine R_o ?_ | refine fR ?_ | refine fRk ?_ | refine F_o ?_) | refine C_l (c4) ?_ | refine C_l (c5) ?_ | refine Kz_l ?_ (a := some (x.size : Int)) (b := none) (r := ba (upL n)) (h0 := Int.natCast_nonneg _) (h1 := by show (x.size : Int) ≤ ((x ++ ba (upL n)).size : Int); omega) (h2 := Int.le_refl _) (hr := hcut) | refine SA_l ?_ | refine V_l ?_ | refine L_l ?_ | refine Q_l ?_ | refine X_l ?_ | refine Xa_l ?_ | refine Xs_l ?_ | refine K_l ?_ | refine Ka_l ?_ | refine Lk_l ?_ | refine Up_l ?_ | refine Del_l ?_ | refine St_l ?_ | refine LU_l ?_ | refine Xw_l ?_ | refine Le_l ?_ | refine Se_l ?_ | refine M_l ?_ | refine A_l ?_ | refine A0_l ?_ | refine A1_l ?_ | refine Mk_l ?_ | refine Kz_l ?_ | refine W_l ?_ | refine C_d (c4) ?_ | refine C_d (c5) ?_ | refine SA_d ?_ | refine V_d ?_ | refine L_d ?_ | refine Q_d ?_ | refine X_d ?_ | refine Xs_d ?_ | refine K_d ?_ | refine Ka_d ?_ | refine Lk_d ?_ | refine Up_d ?_ | refine A_d ?_ | refine A0_d ?_ | refine St_d ?_ | refine LU_d ?_ | refine Xw_d ?_ | refine Le_d ?_ | refine Se_d ?_ | refine M_d ?_ | refine Mk_d ?_ | refine N_d ?_ | refine Kz_d ?_ | refine W_d ?_ | fail)
      all_goals first | exact ⟨rfl, rfl⟩ | trace_state
    | cons c rest ih =>
      intro done n u j h1 hj hu hn
      have hlen : y.data.toList.length = done.length + (rest.length + 1) := by rw [h1]; simp
      have q : decide (j < (y.size : Int)) = true := by rw [decide_eq_true_eq]; omega
      have hat : y.data.toList[j.toNat]? = some c := by rw [h1, hj]; simp
      have e7 : IntKind.i64.wrap (j + 1) = j + 1 := by rw [wrap_ok (by omega) (by omega)]
      rw [cntU] at hn
      have hul2 := up_len n
      have husz : u.size = x.size + 3 * n := by rw [hu, ByteArray.size_append, ← hul2]; rfl
      have hz5 : u.size + (⟨#[47, 46, 46]⟩ : ByteArray).size ≤ 1000 := by
        have : (⟨#[47, 46, 46]⟩ : ByteArray).size = 3 := rfl
        omega
      have g := fun m u2 hu2 hm => ih (done ++ [c]) m u2 (j + 1) (by rw [h1]; simp) (by rw [hj]; simp) hu2 (by rw [List.length_append]; exact hm)
      have hyes : (done.length = 0 ∨ c = 47) → n + 1 + cntU (done.length + 1) rest = N := fun h => by rw [if_pos h] at hn; omega
      have hno : ¬ (done.length = 0 ∨ c = 47) → n + cntU (done.length + 1) rest = N := fun h => by rw [if_neg h] at hn; omega
      have hnext : u ++ ⟨#[47, 46, 46]⟩ = x ++ ba (upL (n + 1)) := by rw [hu]; exact up_next x n
      clear ih hn
      cases q0 : j == 0 with
      | true =>
        have hd0 : done.length = 0 := by rw [beq_iff_eq] at q0; omega
        refine wR (gI ?_)
        repeat' (first | ((first | refine C_r ?_ | refine C0_r ?_ | refine O_r ?_ | refine R_r ?_); (conv => whnf); first | (refine ⟨fun hb => ?_, fun hb => ?_⟩ <;> try exact no_way) | refine A_o ?_ | refine B_o ?_ | refine C_o ?_ | refine R_o ?_ | refine fR ?_ | refine fRk ?_ | refine F_o ?_) | refine SA_l ?_ | refine V_l ?_ | refine L_l ?_ | refine Q_l ?_ | refine X_l ?_ | refine Xa_l ?_ | refine Xs_l ?_ | refine K_l ?_ | refine Ka_l ?_ | refine Lk_l ?_ | refine Up_l ?_ | refine Del_l ?_ | refine St_l ?_ | refine LU_l ?_ | refine Xw_l ?_ | refine Le_l ?_ | refine Se_l ?_ | refine M_l ?_ | refine A_l ?_ | refine A0_l ?_ | refine A1_l ?_ | refine Mk_l ?_ | refine Kz_l ?_ | refine W_l ?_ | refine SA_d ?_ | refine V_d ?_ | refine L_d ?_ | refine Q_d ?_ | refine X_d ?_ | refine Xs_d ?_ | refine K_d ?_ | refine Ka_d ?_ | refine Lk_d ?_ | refine Up_d ?_ | refine A_d ?_ | refine A0_d ?_ | refine St_d ?_ | refine LU_d ?_ | refine Xw_d ?_ | refine Le_d ?_ | refine Se_d ?_ | refine M_d ?_ | refine Mk_d ?_ | refine N_d ?_ | refine Kz_d ?_ | refine W_d ?_ | fail)
        all_goals (rw [e7]; exact rE (g (n + 1) _ hnext (hyes (.inl hd0))))
      | false =>
        have hd0 : ¬ done.length = 0 := by rw [beq_eq_false_iff_ne] at q0; omega
        cases q47 : ((c.toNat : Int) == 47) with
        | true =>
          have hc : c = 47 := by
            rw [beq_iff_eq] at q47
            exact UInt8.toNat_inj.1 (by show c.toNat = 47; omega)
          refine wR (gI ?_)
          repeat' (first | ((first | refine C_r ?_ | refine C0_r ?_ | refine O_r ?_ | refine R_r ?_); (conv => whnf); first | (refine ⟨fun hb => ?_, fun hb => ?_⟩ <;> try exact no_way) | refine A_o ?_ | refine B_o ?_ | refine C_o ?_ | refine R_o ?_ | refine fR ?_ | refine fRk ?_ | refine F_o ?_) | refine SA_l ?_ | refine V_l ?_ | refine L_l ?_ | refine Q_l ?_ | refine X_l ?_ | refine Xa_l ?_ | refine Xs_l ?_ | refine K_l ?_ | refine Ka_l ?_ | refine Lk_l ?_ | refine Up_l ?_ | refine Del_l ?_ | refine St_l ?_ | refine LU_l ?_ | refine Xw_l ?_ | refine Le_l ?_ | refine Se_l ?_ | refine M_l ?_ | refine A_l ?_ | refine A0_l ?_ | refine A1_l ?_ | refine Mk_l ?_ | refine Kz_l ?_ | refine W_l ?_ | refine SA_d ?_ | refine V_d ?_ | refine L_d ?_ | refine Q_d ?_ | refine X_d ?_ | refine Xs_d ?_ | refine K_d ?_ | refine Ka_d ?_ | refine Lk_d ?_ | refine Up_d ?_ | refine A_d ?_ | refine A0_d ?_ | refine St_d ?_ | refine LU_d ?_ | refine Xw_d ?_ | refine Le_d ?_ | refine Se_d ?_ | refine M_d ?_ | refine Mk_d ?_ | refine N_d ?_ | refine Kz_d ?_ | refine W_d ?_ | fail)
          all_goals (rw [e7]; exact rE (g (n + 1) _ hnext (hyes (.inr hc))))
        | false =>
          have hc : ¬ c = 47 := by
            rintro rfl
            exact absurd q47 (by decide)
          refine wR (gI ?_)
          repeat' (first | ((first | refine C_r ?_ | refine C0_r ?_ | refine O_r ?_ | refine R_r ?_); (conv => whnf); first | (refine ⟨fun hb => ?_, fun hb => ?_⟩ <;> try exact no_way) | refine A_o ?_ | refine B_o ?_ | refine C_o ?_ | refine R_o ?_ | refine fR ?_ | refine fRk ?_ | refine F_o ?_) | refine SA_l ?_ | refine V_l ?_ | refine L_l ?_ | refine Q_l ?_ | refine X_l ?_ | refine Xa_l ?_ | refine Xs_l ?_ | refine K_l ?_ | refine Ka_l ?_ | refine Lk_l ?_ | refine Up_l ?_ | refine Del_l ?_ | refine St_l ?_ | refine LU_l ?_ | refine Xw_l ?_ | refine Le_l ?_ | refine Se_l ?_ | refine M_l ?_ | refine A_l ?_ | refine A0_l ?_ | refine A1_l ?_ | refine Mk_l ?_ | refine Kz_l ?_ | refine W_l ?_ | refine SA_d ?_ | refine V_d ?_ | refine L_d ?_ | refine Q_d ?_ | refine X_d ?_ | refine Xs_d ?_ | refine K_d ?_ | refine Ka_d ?_ | refine Lk_d ?_ | refine Up_d ?_ | refine A_d ?_ | refine A0_d ?_ | refine St_d ?_ | refine LU_d ?_ | refine Xw_d ?_ | refine Le_d ?_ | refine Se_d ?_ | refine M_d ?_ | refine Mk_d ?_ | refine N_d ?_ | refine Kz_d ?_ | refine W_d ?_ | fail)
          all_goals (rw [e7]; exact rE (g n u hu (hno (by rintro (h | h); exact hd0 h; exact hc h))))
theorem filesClean_typed [GVals] {x0 x1 : List D} (y0 : Typed Tryd.prog 9 x0) (y1 : Typed Tryd.prog 9 x1) :
    Comp Tryd.prog 4 [argV (aggTy Tryd.prog 9) x0, argV (aggTy Tryd.prog 9) x1] (Am.bool true) := by
  have a1 : aggTy Tryd.prog 9 = false := by unfold aggTy; rw [Tryd.underlying9]
  rw [a1]
  obtain ⟨a, rfl, _⟩ := str_typed y0
  obtain ⟨b, rfl, _⟩ := str_typed y1
  exact filesClean a b
end Go.Proofs.YtcmhpjnafkpofaaDoor
