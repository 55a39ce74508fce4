/- A part of a proof: functions of the program, walked over the abstract machine. -/
import Derived.Test.YtcjgldobfdldmaaSpot4
import Derived.Test.YtcjgldobfdldmaaTy0
set_option linter.unusedVariables false
set_option linter.unusedSimpArgs false
namespace Go.Proofs.Ytcjgldobfdldmaa
open Go Go.Am Go.Proofs
attribute [local irreducible] W WL DL WO RoundEnd
set_option maxRecDepth 10000
set_option maxHeartbeats 4000000
theorem walk_order (p : Nat × Nat) (bs : List UInt8) : p.1 < (walkF p bs).1 ∨ (p.1 = (walkF p bs).1 ∧ (walkF p bs).2 = p.2 + bs.length) := by
  have := walk_rev p bs.reverse
  rw [List.reverse_reverse, List.count_reverse, List.length_reverse] at this
  rw [this]
  by_cases h : bs.count 10 = 0
  · rw [if_pos h]; exact .inr ⟨rfl, rfl⟩
  · rw [if_neg h]; exact .inl (by show p.1 < p.1 + _; omega)
theorem eqS_F (q : Nat × Nat) (a b : Nat) (hq : q.1 < 2 ^ 53 ∧ q.2 < 2 ^ 53) (ha : a < 2 ^ 53) (hb : b < 2 ^ 53) : eqS q (F a) (F b) = (decide (q.1 = a) && decide (q.2 = b)) := by
  unfold eqS
  rw [fEq_F hq.1 ha, fEq_F hq.2 hb]
theorem place_hit : ∀ (mid : List UInt8) (q : Nat × Nat) (rest : List UInt8) (j : Nat), q.1 + mid.length < 2 ^ 50 → q.2 + mid.length < 2 ^ 50 →
    placeF (F (walkF q mid).1) (F (walkF q mid).2) q (mid ++ rest) j = some (j + mid.length)
  | [], q, rest, j, h1, h2 => by
    simp only [List.length_nil, Nat.add_zero] at h1 h2
    have he : eqS q (F q.1) (F q.2) = true := by rw [eqS_F q _ _ ⟨by omega, by omega⟩ (by omega) (by omega)]; simp
    have hw : walkF q [] = q := rfl
    rw [hw]
    cases rest <;> simp [placeF, he]
  | c :: mid, q, rest, j, h1, h2 => by
    simp only [List.length_cons] at h1 h2
    have ho := walk_order q (c :: mid)
    have hl := walk_len q (c :: mid)
    simp only [List.length_cons] at ho hl
    have he : eqS q (F (walkF q (c :: mid)).1) (F (walkF q (c :: mid)).2) = false := by
      rw [eqS_F q _ _ ⟨by omega, by omega⟩ (by omega) (by omega)]
      rcases ho with h | ⟨h, h'⟩
      · rw [decide_eq_false (by omega)]; rfl
      · rw [decide_eq_false (p := q.2 = _) (by omega), Bool.and_false]
    show placeF _ _ q (c :: (mid ++ rest)) j = _
    rw [placeF, he]
    have hw : walkF q (c :: mid) = walkF (stepF q c) mid := rfl
    have hst : (stepF q c).1 ≤ q.1 + 1 ∧ (stepF q c).2 ≤ q.2 + 1 := by unfold stepF; split <;> simp <;> omega
    rw [hw]
    simp only [Bool.false_eq_true, if_false]
    rw [place_hit mid (stepF q c) rest (j + 1) (by omega) (by omega)]
    simp; omega
theorem at_nat (s : ByteArray) (i : Nat) (h : i ≤ s.size) : atF s i = walkF (1, 1) (s.data.toList.take i) := by
  unfold atF; rw [capF_nat _ _ h]
theorem back6 (s t : ByteArray) (i : Int) (hs : s.size < 2 ^ 60) (ht : t.size < 2 ^ 60) : Comp Try.prog 5 [str s, str t, int .i64 i] (bool true) := by
  have c0 := alive6
  by_cases h1 : 300 < s.size
  · have b1 : decide ((s.size : Int) > 300) = true := decide_eq_true (by omega)
    refine Spec.body (C := cx [] 85) fits (fn := Try.f5) Try.func5 rfl (by decide) (by decide) (gI ?_)
    repeat' (first | ((first | refine C_r ?_ | refine C0_r ?_ | refine O_r ?_ | refine R_r ?_); (conv => whnf); first | (refine ⟨fun hb => ?_, fun hb => ?_⟩ <;> try exact no_way) | refine A_o ?_ | refine B_o ?_ | refine C_o ?_ | refine R_o ?_ | refine fR ?_ | refine fRk ?_ | refine F_o ?_) | refine C_l (c0) ?_ | refine SA_l ?_ | refine V_l ?_ | refine L_l ?_ | refine Q_l ?_ | refine X_l ?_ | refine Xa_l ?_ | refine Xs_l ?_ | refine K_l ?_ | refine Ka_l ?_ | refine Lk_l ?_ | refine Up_l ?_ | refine Del_l ?_ | refine St_l ?_ | refine LU_l ?_ | refine Xw_l ?_ | refine Le_l ?_ | refine Se_l ?_ | refine M_l ?_ | refine A_l ?_ | refine A0_l ?_ | refine A1_l ?_ | refine Mk_l ?_ | refine Kz_l ?_ | refine W_l ?_ | refine C_d (c0) ?_ | refine SA_d ?_ | refine V_d ?_ | refine L_d ?_ | refine Q_d ?_ | refine X_d ?_ | refine Xs_d ?_ | refine K_d ?_ | refine Ka_d ?_ | refine Lk_d ?_ | refine Up_d ?_ | refine A_d ?_ | refine A0_d ?_ | refine St_d ?_ | refine LU_d ?_ | refine Xw_d ?_ | refine Le_d ?_ | refine Se_d ?_ | refine M_d ?_ | refine N_d ?_ | refine Kz_d ?_ | refine W_d ?_ | fail)
    exact ⟨rfl, rfl⟩
  have b1 : decide ((s.size : Int) > 300) = false := decide_eq_false (by omega)
  by_cases h2 : 300 < t.size
  · have b2 : decide ((t.size : Int) > 300) = true := decide_eq_true (by omega)
    refine Spec.body (C := cx [] 85) fits (fn := Try.f5) Try.func5 rfl (by decide) (by decide) (gI ?_)
    repeat' (first | ((first | refine C_r ?_ | refine C0_r ?_ | refine O_r ?_ | refine R_r ?_); (conv => whnf); first | (refine ⟨fun hb => ?_, fun hb => ?_⟩ <;> try exact no_way) | refine A_o ?_ | refine B_o ?_ | refine C_o ?_ | refine R_o ?_ | refine fR ?_ | refine fRk ?_ | refine F_o ?_) | refine C_l (c0) ?_ | refine SA_l ?_ | refine V_l ?_ | refine L_l ?_ | refine Q_l ?_ | refine X_l ?_ | refine Xa_l ?_ | refine Xs_l ?_ | refine K_l ?_ | refine Ka_l ?_ | refine Lk_l ?_ | refine Up_l ?_ | refine Del_l ?_ | refine St_l ?_ | refine LU_l ?_ | refine Xw_l ?_ | refine Le_l ?_ | refine Se_l ?_ | refine M_l ?_ | refine A_l ?_ | refine A0_l ?_ | refine A1_l ?_ | refine Mk_l ?_ | refine Kz_l ?_ | refine W_l ?_ | refine C_d (c0) ?_ | refine SA_d ?_ | refine V_d ?_ | refine L_d ?_ | refine Q_d ?_ | refine X_d ?_ | refine Xs_d ?_ | refine K_d ?_ | refine Ka_d ?_ | refine Lk_d ?_ | refine Up_d ?_ | refine A_d ?_ | refine A0_d ?_ | refine St_d ?_ | refine LU_d ?_ | refine Xw_d ?_ | refine Le_d ?_ | refine Se_d ?_ | refine M_d ?_ | refine N_d ?_ | refine Kz_d ?_ | refine W_d ?_ | fail)
    exact ⟨rfl, rfl⟩
  have b2 : decide ((t.size : Int) > 300) = false := decide_eq_false (by omega)
  by_cases h3 : i < 0
  · have b3 : decide (i < 0) = true := decide_eq_true h3
    refine Spec.body (C := cx [] 85) fits (fn := Try.f5) Try.func5 rfl (by decide) (by decide) (gI ?_)
    repeat' (first | ((first | refine C_r ?_ | refine C0_r ?_ | refine O_r ?_ | refine R_r ?_); (conv => whnf); first | (refine ⟨fun hb => ?_, fun hb => ?_⟩ <;> try exact no_way) | refine A_o ?_ | refine B_o ?_ | refine C_o ?_ | refine R_o ?_ | refine fR ?_ | refine fRk ?_ | refine F_o ?_) | refine C_l (c0) ?_ | refine SA_l ?_ | refine V_l ?_ | refine L_l ?_ | refine Q_l ?_ | refine X_l ?_ | refine Xa_l ?_ | refine Xs_l ?_ | refine K_l ?_ | refine Ka_l ?_ | refine Lk_l ?_ | refine Up_l ?_ | refine Del_l ?_ | refine St_l ?_ | refine LU_l ?_ | refine Xw_l ?_ | refine Le_l ?_ | refine Se_l ?_ | refine M_l ?_ | refine A_l ?_ | refine A0_l ?_ | refine A1_l ?_ | refine Mk_l ?_ | refine Kz_l ?_ | refine W_l ?_ | refine C_d (c0) ?_ | refine SA_d ?_ | refine V_d ?_ | refine L_d ?_ | refine Q_d ?_ | refine X_d ?_ | refine Xs_d ?_ | refine K_d ?_ | refine Ka_d ?_ | refine Lk_d ?_ | refine Up_d ?_ | refine A_d ?_ | refine A0_d ?_ | refine St_d ?_ | refine LU_d ?_ | refine Xw_d ?_ | refine Le_d ?_ | refine Se_d ?_ | refine M_d ?_ | refine N_d ?_ | refine Kz_d ?_ | refine W_d ?_ | fail)
    exact ⟨rfl, rfl⟩
  have b3 : decide (i < 0) = false := decide_eq_false h3
  by_cases h4 : (s.size : Int) < i
  · have b4 : decide (i > (s.size : Int)) = true := decide_eq_true h4
    refine Spec.body (C := cx [] 85) fits (fn := Try.f5) Try.func5 rfl (by decide) (by decide) (gI ?_)
    repeat' (first | ((first | refine C_r ?_ | refine C0_r ?_ | refine O_r ?_ | refine R_r ?_); (conv => whnf); first | (refine ⟨fun hb => ?_, fun hb => ?_⟩ <;> try exact no_way) | refine A_o ?_ | refine B_o ?_ | refine C_o ?_ | refine R_o ?_ | refine fR ?_ | refine fRk ?_ | refine F_o ?_) | refine C_l (c0) ?_ | refine SA_l ?_ | refine V_l ?_ | refine L_l ?_ | refine Q_l ?_ | refine X_l ?_ | refine Xa_l ?_ | refine Xs_l ?_ | refine K_l ?_ | refine Ka_l ?_ | refine Lk_l ?_ | refine Up_l ?_ | refine Del_l ?_ | refine St_l ?_ | refine LU_l ?_ | refine Xw_l ?_ | refine Le_l ?_ | refine Se_l ?_ | refine M_l ?_ | refine A_l ?_ | refine A0_l ?_ | refine A1_l ?_ | refine Mk_l ?_ | refine Kz_l ?_ | refine W_l ?_ | refine C_d (c0) ?_ | refine SA_d ?_ | refine V_d ?_ | refine L_d ?_ | refine Q_d ?_ | refine X_d ?_ | refine Xs_d ?_ | refine K_d ?_ | refine Ka_d ?_ | refine Lk_d ?_ | refine Up_d ?_ | refine A_d ?_ | refine A0_d ?_ | refine St_d ?_ | refine LU_d ?_ | refine Xw_d ?_ | refine Le_d ?_ | refine Se_d ?_ | refine M_d ?_ | refine N_d ?_ | refine Kz_d ?_ | refine W_d ?_ | fail)
    exact ⟨rfl, rfl⟩
  have b4 : decide (i > (s.size : Int)) = false := decide_eq_false h4
  obtain ⟨n, rfl⟩ := Int.eq_ofNat_of_zero_le (a := i) (by omega)
  have hn : n ≤ s.size := by omega
  have hsz : s.size = s.data.toList.length := rfl
  have c1 := atR s n (by omega)
  have ea := at_nat s n hn
  have c2 := placeR s (F (atF s n).1) (F (atF s n).2) (by omega)
  have hhit := place_hit (s.data.toList.take n) (1, 1) (s.data.toList.drop n) 0 (by rw [List.length_take]; show 1 + _ < _; omega) (by rw [List.length_take]; show 1 + _ < _; omega)
  rw [List.take_append_drop, ← ea, List.length_take, Nat.zero_add, Nat.min_eq_left (by omega)] at hhit
  rw [hhit] at c2
  have c3 := atR s s.size (by omega)
  have e3 : atF s s.size = walkF (1, 1) s.data.toList := by rw [at_nat s s.size (Nat.le_refl _), hsz, List.take_length]
  rw [e3] at c3
  have c4 := behindR (1, 1) s (by decide) (by omega)
  have e4 : spotV (1, 1) = .one (.d (.sc (.complex .f64 4607182418800017408 4607182418800017408))) := by unfold spotV; rw [F_one]
  rw [e4] at c4
  have hwl := walk_len (1, 1) s.data.toList
  rw [← hsz] at hwl
  simp only at hwl
  have c5 := behindR (walkF (1, 1) s.data.toList) t (by omega) (by omega)
  have hst : (s ++ t).size = s.size + t.size := ByteArray.size_append
  have hw : IntKind.wrap .i64 ((s.size : Int) + (t.size : Int)) = ((s.size + t.size : Nat) : Int) := by rw [wrap_ok (by omega) (by omega)]; rfl
  have c6 := atR (s ++ t) (IntKind.wrap .i64 ((s.size : Int) + (t.size : Int))) (by omega)
  have e6 : atF (s ++ t) (IntKind.wrap .i64 ((s.size : Int) + (t.size : Int))) = walkF (walkF (1, 1) s.data.toList) t.data.toList := by
    rw [hw, ← hst, at_nat _ _ (Nat.le_refl _)]
    have : (s ++ t).data.toList = s.data.toList ++ t.data.toList := by simp
    have h2 : (s ++ t).size = (s ++ t).data.toList.length := rfl
    rw [h2, List.take_length, this, walk_append]
  rw [e6] at c6
  have hat := at_small s n
  have c7 := behindR (atF s n) (s.extract (n : Int).toNat (s.size : Int).toNat) (by omega) (by rw [ByteArray.size_extract]; omega)
  have e7 : walkF (atF s n) (s.extract (n : Int).toNat (s.size : Int).toNat).data.toList = walkF (1, 1) s.data.toList := by
    rw [ea, extract_list, ← walk_append]
    have : ((n : Int)).toNat = n := by omega
    have h2 : ((s.size : Int)).toNat = s.data.toList.length := by omega
    rw [this, h2, List.take_length, List.take_append_drop]
  rw [e7] at c7
  have hwl2 := walk_len (walkF (1, 1) s.data.toList) t.data.toList
  have htz : t.size = t.data.toList.length := rfl
  rw [← htz] at hwl2
  generalize walkF (walkF (1, 1) s.data.toList) t.data.toList = q at *
  generalize walkF (1, 1) s.data.toList = p at *
  generalize atF s n = a at *
  have b5 : (fEq (F p.1) (F p.1) && fEq (F p.2) (F p.2)) = true := by rw [fEq_self _ (by omega), fEq_self _ (by omega)]; rfl
  have b6 : (fEq (F q.1) (F q.1) && fEq (F q.2) (F q.2)) = true := by rw [fEq_self _ (by omega), fEq_self _ (by omega)]; rfl
  have b7 : (((((some n).getD 0 : Nat) : Int)) == (n : Int)) = true := by simp
  refine Spec.body (C := cx [] 85) fits (fn := Try.f5) Try.func5 rfl (by decide) (by decide) (gI ?_)
  repeat' (first | ((first | refine C_r ?_ | refine C0_r ?_ | refine O_r ?_ | refine R_r ?_); (conv => whnf); first | (refine ⟨fun hb => ?_, fun hb => ?_⟩ <;> try exact no_way) | refine A_o ?_ | refine B_o ?_ | refine C_o ?_ | refine R_o ?_ | refine fR ?_ | refine fRk ?_ | refine F_o ?_) | refine C_l (c0) ?_ | refine C_l (c1) ?_ | refine C_l (c2) ?_ | refine C_l (c3) ?_ | refine C_l (c4) ?_ | refine C_l (c5) ?_ | refine C_l (c6) ?_ | refine C_l (c7) ?_ | refine SA_l ?_ | refine V_l ?_ | refine L_l ?_ | refine Q_l ?_ | refine X_l ?_ | refine Xa_l ?_ | refine Xs_l ?_ | refine K_l ?_ | refine Ka_l ?_ | refine Lk_l ?_ | refine Up_l ?_ | refine Del_l ?_ | refine St_l ?_ | refine LU_l ?_ | refine Xw_l ?_ | refine Le_l ?_ | refine Se_l ?_ | refine M_l ?_ | refine A_l ?_ | refine A0_l ?_ | refine A1_l ?_ | refine Mk_l ?_ | refine Kz_l ?_ | refine W_l ?_ | refine C_d (c0) ?_ | refine C_d (c1) ?_ | refine C_d (c2) ?_ | refine C_d (c3) ?_ | refine C_d (c4) ?_ | refine C_d (c5) ?_ | refine C_d (c6) ?_ | refine C_d (c7) ?_ | refine SA_d ?_ | refine V_d ?_ | refine L_d ?_ | refine Q_d ?_ | refine X_d ?_ | refine Xs_d ?_ | refine K_d ?_ | refine Ka_d ?_ | refine Lk_d ?_ | refine Up_d ?_ | refine A_d ?_ | refine A0_d ?_ | refine St_d ?_ | refine LU_d ?_ | refine Xw_d ?_ | refine Le_d ?_ | refine Se_d ?_ | refine M_d ?_ | refine N_d ?_ | refine Kz_d ?_ | refine W_d ?_ | fail)
  all_goals exact ⟨rfl, rfl⟩
end Go.Proofs.Ytcjgldobfdldmaa
