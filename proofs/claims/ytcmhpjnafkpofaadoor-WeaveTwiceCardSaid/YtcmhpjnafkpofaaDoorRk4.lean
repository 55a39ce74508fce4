/- The document's reader of tokens: numbers. -/
import Derived.Test.YtcmhpjnafkpofaaDoorRk3
set_option linter.unusedVariables false
set_option linter.unusedSimpArgs false
namespace Go.Proofs.YtcmhpjnafkpofaaDoor
open Go Go.Am Go.Proofs
attribute [local irreducible] W WL DL WO RoundEnd
set_option maxRecDepth 10000
set_option maxHeartbeats 4000000
set_option linter.unusedVariables false
set_option linter.unusedSimpArgs false
/-- a number: its value, and how many digits it has -/
def numE (base : Nat) : List UInt8 → Nat → Nat → Option (Nat × Nat)
  | [], n, c => bif c == 0 then none else some (n, c)
  | b :: r, n, c => bif decide (valF b < base) then (bif decide (n * base + valF b < 18446744073709551616) then numE base r (n * base + valF b) (c + 1) else none) else (bif (c == 0) || innerF b then none else some (n, c))
def numEV (i : Nat) : Option (Nat × Nat) → V
  | some (n, c) => .tup [.one (.d (.sc (.int .u64 (n : Int)))), .one (.d (.sc (.int .i64 ((i + c : Nat) : Int)))), .one (.d (.sc (.bool true)))]
  | none => .tup [.one (.d (.sc (.int .u64 0))), .one (.d (.sc (.int .i64 0))), .one (.d (.sc (.bool false)))]
theorem val_lt_inner (b : UInt8) (h : valF b < 16) : innerF b = true := by
  unfold valF at h
  unfold innerF letterF
  cases hd : digitF b with
  | true => simp
  | false =>
    rw [hd] at h
    simp only [cond_false] at h
    cases h1 : (decide (b.toNat ≥ 97) && decide (b.toNat ≤ 102)) with
    | true =>
      simp only [Bool.and_eq_true, decide_eq_true_eq] at h1
      have g1 : decide (b.toNat ≥ 97) = true := by rw [decide_eq_true_eq]; omega
      have g2 : decide (b.toNat ≤ 122) = true := by rw [decide_eq_true_eq]; omega
      rw [g1, g2]; simp
    | false =>
      rw [h1] at h
      simp only [cond_false] at h
      cases h2 : (decide (b.toNat ≥ 65) && decide (b.toNat ≤ 70)) with
      | true =>
        simp only [Bool.and_eq_true, decide_eq_true_eq] at h2
        have g1 : decide (b.toNat ≥ 65) = true := by rw [decide_eq_true_eq]; omega
        have g2 : decide (b.toNat ≤ 90) = true := by rw [decide_eq_true_eq]; omega
        rw [g1, g2]; simp
      | false => rw [h2] at h; simp at h
theorem num10EA [GVals] (s : ByteArray) (i : Nat) (hs : s.size < 2 ^ 40) (hi : i < s.size) (g0 : decide (IntKind.i64.wrap ((i : Int) + 1) < (s.size : Int)) = false) : Comp Tryd.prog 50 [str s, int .i64 i] (numEV (i) (numE 10 (s.data.toList.drop (i)) 0 0)) := by
  have hsz : s.size = s.data.toList.length := rfl
  generalize hfb : numEV (i) (numE 10 (s.data.toList.drop (i)) 0 0) = fb
  refine Spec.body (C := cx [] 93) fits (fn := Tryd.f50) Tryd.func50 rfl (by decide) (by decide) (gI ?_)
  repeat' (first | ((first | refine C_r ?_ | refine O_r ?_); (conv => whnf); first | (refine ⟨fun hb => ?_, fun hb => ?_⟩ <;> try exact no_way) | refine A_o ?_) | fail)
  refine wLoop [0, 1, 7, 8, 9] 0 (s.data.toList.length - (i) + 1) ?_
  refine (fun key => (key (s.data.toList.drop (i)) (s.data.toList.take (i)) (i) 0 0 (by simp) (by rw [List.length_take]; omega) (by omega) (by omega) hfb.symm).mono (by rw [List.length_drop]; omega) :
    (∀ (rest done : List UInt8) (j c n : Nat), s.data.toList = done ++ rest → j = done.length → j = (i) + c → n < 18446744073709551616 → fb = numEV (i) (numE 10 rest n c) →
    WR2 _ _ _ _ _ (rest.length + 1) [(0, str s), (1, int .i64 ((i : Nat) : Int)), (7, int .u64 (n : Int)), (8, int .u64 ((10 : Nat) : Int)), (9, int .i64 (j : Int))] []) → _) ?_
  clear hfb
  intro rest
  induction rest with
  | nil =>
    intro done j c n h1 hj hc hn hr
    have hlen : s.data.toList.length = done.length := by rw [h1]; simp
    rw [numE] at hr
    cases k0 : (c == 0) with
    | true =>
      rw [k0] at hr
      have k0' : ((j : Int) == ((i : Nat) : Int)) = true := by rw [beq_iff_eq] at k0 ⊢; omega
      refine wR (gI ?_)
      repeat' (first | ((first | refine C_r ?_ | refine O_r ?_); (conv => whnf); first | (refine ⟨fun hb => ?_, fun hb => ?_⟩ <;> try exact no_way) | refine A_o ?_) | fail)
      all_goals exact ⟨by rw [hr]; rfl, rfl⟩
    | false =>
      rw [k0] at hr
      have k0' : ((j : Int) == ((i : Nat) : Int)) = false := by rw [beq_eq_false_iff_ne] at k0 ⊢; omega
      refine wR (gI ?_)
      repeat' (first | ((first | refine C_r ?_ | refine O_r ?_); (conv => whnf); first | (refine ⟨fun hb => ?_, fun hb => ?_⟩ <;> try exact no_way) | refine A_o ?_ | refine fR ?_) | fail)
      all_goals exact ⟨by rw [hr, hc]; rfl, rfl⟩
  | cons x rest ih =>
    intro done j c n h1 hj hc hn hr
    have hlen : s.data.toList.length = done.length + (rest.length + 1) := by rw [h1]; simp
    have hxj : s.data.toList[((j : Int)).toNat]? = some x := by rw [h1]; simp [hj]
    have c2 := refHexR x
    have c3 := refLetR x
    have c4 := refDigR x
    have hv := val_le x
    rw [numE] at hr
    have hin : innerF x = (letterF x || digitF x) := rfl
    rw [hin] at hr
    have hvi := val_lt_inner x
    generalize valF x = v at *
    cases k1 : decide (v < 10) with
    | false =>
      rw [k1] at hr
      simp only [cond_false] at hr
      have kv : ¬ v < 10 := by simpa using k1
      have stop : ∀ hx : Int, hx = (bif decide (v < 16) then (v : Int) else -1) → decide (hx ≥ 0) = false ∨ (decide (hx ≥ 0) = true ∧ decide (IntKind.u64.wrap hx < ((10 : Nat) : Int)) = false) := by
        intro hx e
        by_cases g : v < 16
        · rw [decide_eq_true g] at e
          simp only [cond_true] at e
          subst e
          refine .inr ⟨by rw [decide_eq_true_eq]; omega, ?_⟩
          rw [wrap_u64 (by omega) (by omega), decide_eq_false_iff_not]; omega
        · rw [decide_eq_false g] at e
          simp only [cond_false] at e
          subst e
          exact .inl rfl
      have stop := stop _ rfl
      generalize (bif decide (v < 16) then (v : Int) else -1) = hx at *
      cases k0 : (c == 0) with
      | true =>
        rw [k0] at hr
        have k0' : ((j : Int) == ((i : Nat) : Int)) = true := by rw [beq_iff_eq] at k0 ⊢; omega
        rcases stop with q1 | ⟨q1, q2⟩
        · refine wR (gI ?_)
          repeat' (first | ((first | refine C_r ?_ | refine O_r ?_); (conv => whnf); first | (refine ⟨fun hb => ?_, fun hb => ?_⟩ <;> try exact no_way) | refine A_o ?_ | refine B_o ?_ | refine fR ?_) | refine C_l (c2) ?_ | refine Xs_l ?_ | fail)
          exact ⟨by rw [hr]; rfl, rfl⟩
        · refine wR (gI ?_)
          repeat' (first | ((first | refine C_r ?_ | refine O_r ?_); (conv => whnf); first | (refine ⟨fun hb => ?_, fun hb => ?_⟩ <;> try exact no_way) | refine A_o ?_ | refine B_o ?_ | refine fR ?_) | refine C_l (c2) ?_ | refine Xs_l ?_ | fail)
          exact ⟨by rw [hr]; rfl, rfl⟩
      | false =>
        rw [k0] at hr
        simp only [Bool.false_or] at hr
        have k0' : ((j : Int) == ((i : Nat) : Int)) = false := by rw [beq_eq_false_iff_ne] at k0 ⊢; omega
        generalize letterF x = l1 at *
        generalize digitF x = l2 at *
        rcases stop with q1 | ⟨q1, q2⟩
        · refine wR (gI ?_)
          repeat' (first | ((first | refine C_r ?_ | refine O_r ?_); (conv => whnf); first | (refine ⟨fun hb => ?_, fun hb => ?_⟩ <;> try exact no_way) | refine A_o ?_ | refine B_o ?_ | refine fR ?_) | refine C_l (c2) ?_ | refine B_l (c3) (fun m1 => ?_) fun m1 => ?_ | refine B_l (c4) (fun m2 => ?_) fun m2 => ?_ | refine Xs_l ?_ | fail)
          · exact ⟨by rw [hr, m1]; rfl, rfl⟩
          · exact ⟨by rw [hr, m1, m2]; rfl, rfl⟩
          · exact ⟨by rw [hr, m1, m2, hc]; rfl, rfl⟩
        · refine wR (gI ?_)
          repeat' (first | ((first | refine C_r ?_ | refine O_r ?_); (conv => whnf); first | (refine ⟨fun hb => ?_, fun hb => ?_⟩ <;> try exact no_way) | refine A_o ?_ | refine B_o ?_ | refine fR ?_) | refine C_l (c2) ?_ | refine B_l (c3) (fun m1 => ?_) fun m1 => ?_ | refine B_l (c4) (fun m2 => ?_) fun m2 => ?_ | refine Xs_l ?_ | fail)
          · exact ⟨by rw [hr, m1]; rfl, rfl⟩
          · exact ⟨by rw [hr, m1, m2]; rfl, rfl⟩
          · exact ⟨by rw [hr, m1, m2, hc]; rfl, rfl⟩
    | true =>
      rw [k1] at hr
      simp only [cond_true] at hr
      have kv : v < 10 := by simpa using k1
      have e3 : (bif decide (v < 16) then (v : Int) else -1) = (v : Int) := by
        have : decide (v < 16) = true := by rw [decide_eq_true_eq]; omega
        rw [this]; rfl
      rw [e3] at c2
      have q1 : decide ((v : Int) ≥ 0) = true := by rw [decide_eq_true_eq]; omega
      have e4 : IntKind.u64.wrap (v : Int) = (v : Int) := wrap_u64 (by omega) (by omega)
      have q2 : decide (IntKind.u64.wrap (v : Int) < ((10 : Nat) : Int)) = true := by rw [e4, decide_eq_true_eq]; omega
      have e5 : IntKind.u64.wrap ((IntKind.u64.wrap (18446744073709551615 - IntKind.u64.wrap (v : Int))).tdiv ((10 : Nat) : Int)) = (((18446744073709551615 - v) / 10 : Nat) : Int) := by
        rw [e4, wrap_u64 (n := 18446744073709551615 - (v : Int)) (by omega) (by omega), Int.tdiv_eq_ediv_of_nonneg (by omega), wrap_u64 (by omega) (by omega)]
        omega
      cases k2 : decide (n * 10 + v < 18446744073709551616) with
      | false =>
        have kn : ¬ n * 10 + v < 18446744073709551616 := by simpa using k2
        rw [k2] at hr
        have q3 : decide ((n : Int) > IntKind.u64.wrap ((IntKind.u64.wrap (18446744073709551615 - IntKind.u64.wrap (v : Int))).tdiv ((10 : Nat) : Int))) = true := by
          rw [e5, decide_eq_true_eq]; omega
        refine wR (gI ?_)
        repeat' (first | ((first | refine C_r ?_ | refine O_r ?_); (conv => whnf); first | (refine ⟨fun hb => ?_, fun hb => ?_⟩ <;> try exact no_way) | refine B_o ?_ | refine fR ?_) | refine C_l (c2) ?_ | refine V_l ?_ | refine Xs_l ?_ | fail)
        all_goals exact ⟨by rw [hr]; rfl, rfl⟩
      | true =>
        have kn : n * 10 + v < 18446744073709551616 := by simpa using k2
        rw [k2] at hr
        simp only [cond_true] at hr
        have q3 : decide ((n : Int) > IntKind.u64.wrap ((IntKind.u64.wrap (18446744073709551615 - IntKind.u64.wrap (v : Int))).tdiv ((10 : Nat) : Int))) = false := by
          rw [e5, decide_eq_false_iff_not]; omega
        have e6 : IntKind.u64.wrap (IntKind.u64.wrap ((n : Int) * ((10 : Nat) : Int)) + IntKind.u64.wrap (v : Int)) = ((n * 10 + v : Nat) : Int) := by
          rw [e4, wrap_u64 (n := (n : Int) * ((10 : Nat) : Int)) (by omega) (by omega), wrap_u64 (by omega) (by omega)]
          omega
        have e7 : IntKind.i64.wrap ((j : Int) + 1) = ((j + 1 : Nat) : Int) := by rw [wrap_ok (by omega) (by omega)]; omega
        refine wR (gI ?_)
        repeat' (first | ((first | refine C_r ?_ | refine O_r ?_); (conv => whnf); first | (refine ⟨fun hb => ?_, fun hb => ?_⟩ <;> try exact no_way) | refine B_o ?_ | refine R_o ?_) | refine C_l (c2) ?_ | refine V_l ?_ | refine Xs_l ?_ | fail)
        rw [e6, e7]
        refine rE (ih (done ++ [x]) (j + 1) (c + 1) (n * 10 + v) (by rw [h1]; simp) ?_ ?_ kn hr)
        · simp [hj]
        · omega

theorem num10EB [GVals] (s : ByteArray) (i : Nat) (hs : s.size < 2 ^ 40) (hi : i < s.size) (g0 : decide (IntKind.i64.wrap ((i : Int) + 1) < (s.size : Int)) = true) (b : UInt8) (hx : s.data.toList[((i : Int)).toNat]? = some b) (g1 : ((b.toNat : Int) == 48) = false) : Comp Tryd.prog 50 [str s, int .i64 i] (numEV (i) (numE 10 (s.data.toList.drop (i)) 0 0)) := by
  have hsz : s.size = s.data.toList.length := rfl
  generalize hfb : numEV (i) (numE 10 (s.data.toList.drop (i)) 0 0) = fb
  refine Spec.body (C := cx [] 93) fits (fn := Tryd.f50) Tryd.func50 rfl (by decide) (by decide) (gI ?_)
  repeat' (first | ((first | refine C_r ?_ | refine O_r ?_); (conv => whnf); first | (refine ⟨fun hb => ?_, fun hb => ?_⟩ <;> try exact no_way) | refine A_o ?_ | refine B_o ?_) | refine Xs_l ?_ | fail)
  refine wLoop [0, 1, 7, 8, 9] 0 (s.data.toList.length - (i) + 1) ?_
  refine (fun key => (key (s.data.toList.drop (i)) (s.data.toList.take (i)) (i) 0 0 (by simp) (by rw [List.length_take]; omega) (by omega) (by omega) hfb.symm).mono (by rw [List.length_drop]; omega) :
    (∀ (rest done : List UInt8) (j c n : Nat), s.data.toList = done ++ rest → j = done.length → j = (i) + c → n < 18446744073709551616 → fb = numEV (i) (numE 10 rest n c) →
    WR2 _ _ _ _ _ (rest.length + 1) [(0, str s), (1, int .i64 ((i : Nat) : Int)), (7, int .u64 (n : Int)), (8, int .u64 ((10 : Nat) : Int)), (9, int .i64 (j : Int))] []) → _) ?_
  clear hfb
  intro rest
  induction rest with
  | nil =>
    intro done j c n h1 hj hc hn hr
    have hlen : s.data.toList.length = done.length := by rw [h1]; simp
    rw [numE] at hr
    cases k0 : (c == 0) with
    | true =>
      rw [k0] at hr
      have k0' : ((j : Int) == ((i : Nat) : Int)) = true := by rw [beq_iff_eq] at k0 ⊢; omega
      refine wR (gI ?_)
      repeat' (first | ((first | refine C_r ?_ | refine O_r ?_); (conv => whnf); first | (refine ⟨fun hb => ?_, fun hb => ?_⟩ <;> try exact no_way) | refine A_o ?_) | fail)
      all_goals exact ⟨by rw [hr]; rfl, rfl⟩
    | false =>
      rw [k0] at hr
      have k0' : ((j : Int) == ((i : Nat) : Int)) = false := by rw [beq_eq_false_iff_ne] at k0 ⊢; omega
      refine wR (gI ?_)
      repeat' (first | ((first | refine C_r ?_ | refine O_r ?_); (conv => whnf); first | (refine ⟨fun hb => ?_, fun hb => ?_⟩ <;> try exact no_way) | refine A_o ?_ | refine fR ?_) | fail)
      all_goals exact ⟨by rw [hr, hc]; rfl, rfl⟩
  | cons x rest ih =>
    intro done j c n h1 hj hc hn hr
    have hlen : s.data.toList.length = done.length + (rest.length + 1) := by rw [h1]; simp
    have hxj : s.data.toList[((j : Int)).toNat]? = some x := by rw [h1]; simp [hj]
    have c2 := refHexR x
    have c3 := refLetR x
    have c4 := refDigR x
    have hv := val_le x
    rw [numE] at hr
    have hin : innerF x = (letterF x || digitF x) := rfl
    rw [hin] at hr
    have hvi := val_lt_inner x
    generalize valF x = v at *
    cases k1 : decide (v < 10) with
    | false =>
      rw [k1] at hr
      simp only [cond_false] at hr
      have kv : ¬ v < 10 := by simpa using k1
      have stop : ∀ hx : Int, hx = (bif decide (v < 16) then (v : Int) else -1) → decide (hx ≥ 0) = false ∨ (decide (hx ≥ 0) = true ∧ decide (IntKind.u64.wrap hx < ((10 : Nat) : Int)) = false) := by
        intro hx e
        by_cases g : v < 16
        · rw [decide_eq_true g] at e
          simp only [cond_true] at e
          subst e
          refine .inr ⟨by rw [decide_eq_true_eq]; omega, ?_⟩
          rw [wrap_u64 (by omega) (by omega), decide_eq_false_iff_not]; omega
        · rw [decide_eq_false g] at e
          simp only [cond_false] at e
          subst e
          exact .inl rfl
      have stop := stop _ rfl
      generalize (bif decide (v < 16) then (v : Int) else -1) = hx at *
      cases k0 : (c == 0) with
      | true =>
        rw [k0] at hr
        have k0' : ((j : Int) == ((i : Nat) : Int)) = true := by rw [beq_iff_eq] at k0 ⊢; omega
        rcases stop with q1 | ⟨q1, q2⟩
        · refine wR (gI ?_)
          repeat' (first | ((first | refine C_r ?_ | refine O_r ?_); (conv => whnf); first | (refine ⟨fun hb => ?_, fun hb => ?_⟩ <;> try exact no_way) | refine A_o ?_ | refine B_o ?_ | refine fR ?_) | refine C_l (c2) ?_ | refine Xs_l ?_ | fail)
          exact ⟨by rw [hr]; rfl, rfl⟩
        · refine wR (gI ?_)
          repeat' (first | ((first | refine C_r ?_ | refine O_r ?_); (conv => whnf); first | (refine ⟨fun hb => ?_, fun hb => ?_⟩ <;> try exact no_way) | refine A_o ?_ | refine B_o ?_ | refine fR ?_) | refine C_l (c2) ?_ | refine Xs_l ?_ | fail)
          exact ⟨by rw [hr]; rfl, rfl⟩
      | false =>
        rw [k0] at hr
        simp only [Bool.false_or] at hr
        have k0' : ((j : Int) == ((i : Nat) : Int)) = false := by rw [beq_eq_false_iff_ne] at k0 ⊢; omega
        generalize letterF x = l1 at *
        generalize digitF x = l2 at *
        rcases stop with q1 | ⟨q1, q2⟩
        · refine wR (gI ?_)
          repeat' (first | ((first | refine C_r ?_ | refine O_r ?_); (conv => whnf); first | (refine ⟨fun hb => ?_, fun hb => ?_⟩ <;> try exact no_way) | refine A_o ?_ | refine B_o ?_ | refine fR ?_) | refine C_l (c2) ?_ | refine B_l (c3) (fun m1 => ?_) fun m1 => ?_ | refine B_l (c4) (fun m2 => ?_) fun m2 => ?_ | refine Xs_l ?_ | fail)
          · exact ⟨by rw [hr, m1]; rfl, rfl⟩
          · exact ⟨by rw [hr, m1, m2]; rfl, rfl⟩
          · exact ⟨by rw [hr, m1, m2, hc]; rfl, rfl⟩
        · refine wR (gI ?_)
          repeat' (first | ((first | refine C_r ?_ | refine O_r ?_); (conv => whnf); first | (refine ⟨fun hb => ?_, fun hb => ?_⟩ <;> try exact no_way) | refine A_o ?_ | refine B_o ?_ | refine fR ?_) | refine C_l (c2) ?_ | refine B_l (c3) (fun m1 => ?_) fun m1 => ?_ | refine B_l (c4) (fun m2 => ?_) fun m2 => ?_ | refine Xs_l ?_ | fail)
          · exact ⟨by rw [hr, m1]; rfl, rfl⟩
          · exact ⟨by rw [hr, m1, m2]; rfl, rfl⟩
          · exact ⟨by rw [hr, m1, m2, hc]; rfl, rfl⟩
    | true =>
      rw [k1] at hr
      simp only [cond_true] at hr
      have kv : v < 10 := by simpa using k1
      have e3 : (bif decide (v < 16) then (v : Int) else -1) = (v : Int) := by
        have : decide (v < 16) = true := by rw [decide_eq_true_eq]; omega
        rw [this]; rfl
      rw [e3] at c2
      have q1 : decide ((v : Int) ≥ 0) = true := by rw [decide_eq_true_eq]; omega
      have e4 : IntKind.u64.wrap (v : Int) = (v : Int) := wrap_u64 (by omega) (by omega)
      have q2 : decide (IntKind.u64.wrap (v : Int) < ((10 : Nat) : Int)) = true := by rw [e4, decide_eq_true_eq]; omega
      have e5 : IntKind.u64.wrap ((IntKind.u64.wrap (18446744073709551615 - IntKind.u64.wrap (v : Int))).tdiv ((10 : Nat) : Int)) = (((18446744073709551615 - v) / 10 : Nat) : Int) := by
        rw [e4, wrap_u64 (n := 18446744073709551615 - (v : Int)) (by omega) (by omega), Int.tdiv_eq_ediv_of_nonneg (by omega), wrap_u64 (by omega) (by omega)]
        omega
      cases k2 : decide (n * 10 + v < 18446744073709551616) with
      | false =>
        have kn : ¬ n * 10 + v < 18446744073709551616 := by simpa using k2
        rw [k2] at hr
        have q3 : decide ((n : Int) > IntKind.u64.wrap ((IntKind.u64.wrap (18446744073709551615 - IntKind.u64.wrap (v : Int))).tdiv ((10 : Nat) : Int))) = true := by
          rw [e5, decide_eq_true_eq]; omega
        refine wR (gI ?_)
        repeat' (first | ((first | refine C_r ?_ | refine O_r ?_); (conv => whnf); first | (refine ⟨fun hb => ?_, fun hb => ?_⟩ <;> try exact no_way) | refine B_o ?_ | refine fR ?_) | refine C_l (c2) ?_ | refine V_l ?_ | refine Xs_l ?_ | fail)
        all_goals exact ⟨by rw [hr]; rfl, rfl⟩
      | true =>
        have kn : n * 10 + v < 18446744073709551616 := by simpa using k2
        rw [k2] at hr
        simp only [cond_true] at hr
        have q3 : decide ((n : Int) > IntKind.u64.wrap ((IntKind.u64.wrap (18446744073709551615 - IntKind.u64.wrap (v : Int))).tdiv ((10 : Nat) : Int))) = false := by
          rw [e5, decide_eq_false_iff_not]; omega
        have e6 : IntKind.u64.wrap (IntKind.u64.wrap ((n : Int) * ((10 : Nat) : Int)) + IntKind.u64.wrap (v : Int)) = ((n * 10 + v : Nat) : Int) := by
          rw [e4, wrap_u64 (n := (n : Int) * ((10 : Nat) : Int)) (by omega) (by omega), wrap_u64 (by omega) (by omega)]
          omega
        have e7 : IntKind.i64.wrap ((j : Int) + 1) = ((j + 1 : Nat) : Int) := by rw [wrap_ok (by omega) (by omega)]; omega
        refine wR (gI ?_)
        repeat' (first | ((first | refine C_r ?_ | refine O_r ?_); (conv => whnf); first | (refine ⟨fun hb => ?_, fun hb => ?_⟩ <;> try exact no_way) | refine B_o ?_ | refine R_o ?_) | refine C_l (c2) ?_ | refine V_l ?_ | refine Xs_l ?_ | fail)
        rw [e6, e7]
        refine rE (ih (done ++ [x]) (j + 1) (c + 1) (n * 10 + v) (by rw [h1]; simp) ?_ ?_ kn hr)
        · simp [hj]
        · omega

theorem num10EC [GVals] (s : ByteArray) (i : Nat) (hs : s.size < 2 ^ 40) (hi : i < s.size) (g0 : decide (IntKind.i64.wrap ((i : Int) + 1) < (s.size : Int)) = true) (b c : UInt8) (hx : s.data.toList[((i : Int)).toNat]? = some b) (g1 : ((b.toNat : Int) == 48) = true) (hi1 : 0 ≤ IntKind.i64.wrap ((i : Int) + 1)) (hx2 : s.data.toList[(IntKind.i64.wrap ((i : Int) + 1)).toNat]? = some c) (g2 : ((c.toNat : Int) == 120) = false) : Comp Tryd.prog 50 [str s, int .i64 i] (numEV (i) (numE 10 (s.data.toList.drop (i)) 0 0)) := by
  have hsz : s.size = s.data.toList.length := rfl
  generalize hfb : numEV (i) (numE 10 (s.data.toList.drop (i)) 0 0) = fb
  refine Spec.body (C := cx [] 93) fits (fn := Tryd.f50) Tryd.func50 rfl (by decide) (by decide) (gI ?_)
  repeat' (first | ((first | refine C_r ?_ | refine O_r ?_); (conv => whnf); first | (refine ⟨fun hb => ?_, fun hb => ?_⟩ <;> try exact no_way) | refine A_o ?_ | refine B_o ?_) | refine Xs_l ?_ | fail)
  refine wLoop [0, 1, 7, 8, 9] 0 (s.data.toList.length - (i) + 1) ?_
  refine (fun key => (key (s.data.toList.drop (i)) (s.data.toList.take (i)) (i) 0 0 (by simp) (by rw [List.length_take]; omega) (by omega) (by omega) hfb.symm).mono (by rw [List.length_drop]; omega) :
    (∀ (rest done : List UInt8) (j c n : Nat), s.data.toList = done ++ rest → j = done.length → j = (i) + c → n < 18446744073709551616 → fb = numEV (i) (numE 10 rest n c) →
    WR2 _ _ _ _ _ (rest.length + 1) [(0, str s), (1, int .i64 ((i : Nat) : Int)), (7, int .u64 (n : Int)), (8, int .u64 ((10 : Nat) : Int)), (9, int .i64 (j : Int))] []) → _) ?_
  clear hfb
  intro rest
  induction rest with
  | nil =>
    intro done j c n h1 hj hc hn hr
    have hlen : s.data.toList.length = done.length := by rw [h1]; simp
    rw [numE] at hr
    cases k0 : (c == 0) with
    | true =>
      rw [k0] at hr
      have k0' : ((j : Int) == ((i : Nat) : Int)) = true := by rw [beq_iff_eq] at k0 ⊢; omega
      refine wR (gI ?_)
      repeat' (first | ((first | refine C_r ?_ | refine O_r ?_); (conv => whnf); first | (refine ⟨fun hb => ?_, fun hb => ?_⟩ <;> try exact no_way) | refine A_o ?_) | fail)
      all_goals exact ⟨by rw [hr]; rfl, rfl⟩
    | false =>
      rw [k0] at hr
      have k0' : ((j : Int) == ((i : Nat) : Int)) = false := by rw [beq_eq_false_iff_ne] at k0 ⊢; omega
      refine wR (gI ?_)
      repeat' (first | ((first | refine C_r ?_ | refine O_r ?_); (conv => whnf); first | (refine ⟨fun hb => ?_, fun hb => ?_⟩ <;> try exact no_way) | refine A_o ?_ | refine fR ?_) | fail)
      all_goals exact ⟨by rw [hr, hc]; rfl, rfl⟩
  | cons x rest ih =>
    intro done j c n h1 hj hc hn hr
    have hlen : s.data.toList.length = done.length + (rest.length + 1) := by rw [h1]; simp
    have hxj : s.data.toList[((j : Int)).toNat]? = some x := by rw [h1]; simp [hj]
    have c2 := refHexR x
    have c3 := refLetR x
    have c4 := refDigR x
    have hv := val_le x
    rw [numE] at hr
    have hin : innerF x = (letterF x || digitF x) := rfl
    rw [hin] at hr
    have hvi := val_lt_inner x
    generalize valF x = v at *
    cases k1 : decide (v < 10) with
    | false =>
      rw [k1] at hr
      simp only [cond_false] at hr
      have kv : ¬ v < 10 := by simpa using k1
      have stop : ∀ hx : Int, hx = (bif decide (v < 16) then (v : Int) else -1) → decide (hx ≥ 0) = false ∨ (decide (hx ≥ 0) = true ∧ decide (IntKind.u64.wrap hx < ((10 : Nat) : Int)) = false) := by
        intro hx e
        by_cases g : v < 16
        · rw [decide_eq_true g] at e
          simp only [cond_true] at e
          subst e
          refine .inr ⟨by rw [decide_eq_true_eq]; omega, ?_⟩
          rw [wrap_u64 (by omega) (by omega), decide_eq_false_iff_not]; omega
        · rw [decide_eq_false g] at e
          simp only [cond_false] at e
          subst e
          exact .inl rfl
      have stop := stop _ rfl
      generalize (bif decide (v < 16) then (v : Int) else -1) = hx at *
      cases k0 : (c == 0) with
      | true =>
        rw [k0] at hr
        have k0' : ((j : Int) == ((i : Nat) : Int)) = true := by rw [beq_iff_eq] at k0 ⊢; omega
        rcases stop with q1 | ⟨q1, q2⟩
        · refine wR (gI ?_)
          repeat' (first | ((first | refine C_r ?_ | refine O_r ?_); (conv => whnf); first | (refine ⟨fun hb => ?_, fun hb => ?_⟩ <;> try exact no_way) | refine A_o ?_ | refine B_o ?_ | refine fR ?_) | refine C_l (c2) ?_ | refine Xs_l ?_ | fail)
          exact ⟨by rw [hr]; rfl, rfl⟩
        · refine wR (gI ?_)
          repeat' (first | ((first | refine C_r ?_ | refine O_r ?_); (conv => whnf); first | (refine ⟨fun hb => ?_, fun hb => ?_⟩ <;> try exact no_way) | refine A_o ?_ | refine B_o ?_ | refine fR ?_) | refine C_l (c2) ?_ | refine Xs_l ?_ | fail)
          exact ⟨by rw [hr]; rfl, rfl⟩
      | false =>
        rw [k0] at hr
        simp only [Bool.false_or] at hr
        have k0' : ((j : Int) == ((i : Nat) : Int)) = false := by rw [beq_eq_false_iff_ne] at k0 ⊢; omega
        generalize letterF x = l1 at *
        generalize digitF x = l2 at *
        rcases stop with q1 | ⟨q1, q2⟩
        · refine wR (gI ?_)
          repeat' (first | ((first | refine C_r ?_ | refine O_r ?_); (conv => whnf); first | (refine ⟨fun hb => ?_, fun hb => ?_⟩ <;> try exact no_way) | refine A_o ?_ | refine B_o ?_ | refine fR ?_) | refine C_l (c2) ?_ | refine B_l (c3) (fun m1 => ?_) fun m1 => ?_ | refine B_l (c4) (fun m2 => ?_) fun m2 => ?_ | refine Xs_l ?_ | fail)
          · exact ⟨by rw [hr, m1]; rfl, rfl⟩
          · exact ⟨by rw [hr, m1, m2]; rfl, rfl⟩
          · exact ⟨by rw [hr, m1, m2, hc]; rfl, rfl⟩
        · refine wR (gI ?_)
          repeat' (first | ((first | refine C_r ?_ | refine O_r ?_); (conv => whnf); first | (refine ⟨fun hb => ?_, fun hb => ?_⟩ <;> try exact no_way) | refine A_o ?_ | refine B_o ?_ | refine fR ?_) | refine C_l (c2) ?_ | refine B_l (c3) (fun m1 => ?_) fun m1 => ?_ | refine B_l (c4) (fun m2 => ?_) fun m2 => ?_ | refine Xs_l ?_ | fail)
          · exact ⟨by rw [hr, m1]; rfl, rfl⟩
          · exact ⟨by rw [hr, m1, m2]; rfl, rfl⟩
          · exact ⟨by rw [hr, m1, m2, hc]; rfl, rfl⟩
    | true =>
      rw [k1] at hr
      simp only [cond_true] at hr
      have kv : v < 10 := by simpa using k1
      have e3 : (bif decide (v < 16) then (v : Int) else -1) = (v : Int) := by
        have : decide (v < 16) = true := by rw [decide_eq_true_eq]; omega
        rw [this]; rfl
      rw [e3] at c2
      have q1 : decide ((v : Int) ≥ 0) = true := by rw [decide_eq_true_eq]; omega
      have e4 : IntKind.u64.wrap (v : Int) = (v : Int) := wrap_u64 (by omega) (by omega)
      have q2 : decide (IntKind.u64.wrap (v : Int) < ((10 : Nat) : Int)) = true := by rw [e4, decide_eq_true_eq]; omega
      have e5 : IntKind.u64.wrap ((IntKind.u64.wrap (18446744073709551615 - IntKind.u64.wrap (v : Int))).tdiv ((10 : Nat) : Int)) = (((18446744073709551615 - v) / 10 : Nat) : Int) := by
        rw [e4, wrap_u64 (n := 18446744073709551615 - (v : Int)) (by omega) (by omega), Int.tdiv_eq_ediv_of_nonneg (by omega), wrap_u64 (by omega) (by omega)]
        omega
      cases k2 : decide (n * 10 + v < 18446744073709551616) with
      | false =>
        have kn : ¬ n * 10 + v < 18446744073709551616 := by simpa using k2
        rw [k2] at hr
        have q3 : decide ((n : Int) > IntKind.u64.wrap ((IntKind.u64.wrap (18446744073709551615 - IntKind.u64.wrap (v : Int))).tdiv ((10 : Nat) : Int))) = true := by
          rw [e5, decide_eq_true_eq]; omega
        refine wR (gI ?_)
        repeat' (first | ((first | refine C_r ?_ | refine O_r ?_); (conv => whnf); first | (refine ⟨fun hb => ?_, fun hb => ?_⟩ <;> try exact no_way) | refine B_o ?_ | refine fR ?_) | refine C_l (c2) ?_ | refine V_l ?_ | refine Xs_l ?_ | fail)
        all_goals exact ⟨by rw [hr]; rfl, rfl⟩
      | true =>
        have kn : n * 10 + v < 18446744073709551616 := by simpa using k2
        rw [k2] at hr
        simp only [cond_true] at hr
        have q3 : decide ((n : Int) > IntKind.u64.wrap ((IntKind.u64.wrap (18446744073709551615 - IntKind.u64.wrap (v : Int))).tdiv ((10 : Nat) : Int))) = false := by
          rw [e5, decide_eq_false_iff_not]; omega
        have e6 : IntKind.u64.wrap (IntKind.u64.wrap ((n : Int) * ((10 : Nat) : Int)) + IntKind.u64.wrap (v : Int)) = ((n * 10 + v : Nat) : Int) := by
          rw [e4, wrap_u64 (n := (n : Int) * ((10 : Nat) : Int)) (by omega) (by omega), wrap_u64 (by omega) (by omega)]
          omega
        have e7 : IntKind.i64.wrap ((j : Int) + 1) = ((j + 1 : Nat) : Int) := by rw [wrap_ok (by omega) (by omega)]; omega
        refine wR (gI ?_)
        repeat' (first | ((first | refine C_r ?_ | refine O_r ?_); (conv => whnf); first | (refine ⟨fun hb => ?_, fun hb => ?_⟩ <;> try exact no_way) | refine B_o ?_ | refine R_o ?_) | refine C_l (c2) ?_ | refine V_l ?_ | refine Xs_l ?_ | fail)
        rw [e6, e7]
        refine rE (ih (done ++ [x]) (j + 1) (c + 1) (n * 10 + v) (by rw [h1]; simp) ?_ ?_ kn hr)
        · simp [hj]
        · omega

theorem num16E [GVals] (s : ByteArray) (i : Nat) (hs : s.size < 2 ^ 40) (hi : i + 2 ≤ s.size) (b c : UInt8) (hx : s.data.toList[((i : Int)).toNat]? = some b) (g1 : ((b.toNat : Int) == 48) = true) (hi1 : 0 ≤ IntKind.i64.wrap ((i : Int) + 1)) (hx2 : s.data.toList[(IntKind.i64.wrap ((i : Int) + 1)).toNat]? = some c) (g2 : ((c.toNat : Int) == 120) = true) : Comp Tryd.prog 50 [str s, int .i64 i] (numEV (i + 2) (numE 16 (s.data.toList.drop (i + 2)) 0 0)) := by
  have hsz : s.size = s.data.toList.length := rfl
  have g0 : decide (IntKind.i64.wrap ((i : Int) + 1) < (s.size : Int)) = true := by rw [wrap_ok (by omega) (by omega), decide_eq_true_eq]; omega
  have e0 : IntKind.i64.wrap ((i : Int) + 2) = ((i + 2 : Nat) : Int) := by rw [wrap_ok (by omega) (by omega)]; omega
  generalize hfb : numEV (i + 2) (numE 16 (s.data.toList.drop (i + 2)) 0 0) = fb
  refine Spec.body (C := cx [] 93) fits (fn := Tryd.f50) Tryd.func50 rfl (by decide) (by decide) (gI ?_)
  repeat' (first | ((first | refine C_r ?_ | refine O_r ?_); (conv => whnf); first | (refine ⟨fun hb => ?_, fun hb => ?_⟩ <;> try exact no_way) | refine A_o ?_ | refine B_o ?_) | refine Xs_l ?_ | fail)
  rw [e0]
  refine wLoop [0, 1, 7, 8, 9] 0 (s.data.toList.length - (i + 2) + 1) ?_
  refine (fun key => (key (s.data.toList.drop (i + 2)) (s.data.toList.take (i + 2)) (i + 2) 0 0 (by simp) (by rw [List.length_take]; omega) (by omega) (by omega) hfb.symm).mono (by rw [List.length_drop]; omega) :
    (∀ (rest done : List UInt8) (j c n : Nat), s.data.toList = done ++ rest → j = done.length → j = (i + 2) + c → n < 18446744073709551616 → fb = numEV (i + 2) (numE 16 rest n c) →
    WR2 _ _ _ _ _ (rest.length + 1) [(0, str s), (1, int .i64 ((i + 2 : Nat) : Int)), (7, int .u64 (n : Int)), (8, int .u64 ((16 : Nat) : Int)), (9, int .i64 (j : Int))] []) → _) ?_
  clear hfb
  intro rest
  induction rest with
  | nil =>
    intro done j c n h1 hj hc hn hr
    have hlen : s.data.toList.length = done.length := by rw [h1]; simp
    rw [numE] at hr
    cases k0 : (c == 0) with
    | true =>
      rw [k0] at hr
      have k0' : ((j : Int) == ((i + 2 : Nat) : Int)) = true := by rw [beq_iff_eq] at k0 ⊢; omega
      refine wR (gI ?_)
      repeat' (first | ((first | refine C_r ?_ | refine O_r ?_); (conv => whnf); first | (refine ⟨fun hb => ?_, fun hb => ?_⟩ <;> try exact no_way) | refine A_o ?_ | refine fR ?_) | fail)
      all_goals exact ⟨by rw [hr]; rfl, rfl⟩
    | false =>
      rw [k0] at hr
      have k0' : ((j : Int) == ((i + 2 : Nat) : Int)) = false := by rw [beq_eq_false_iff_ne] at k0 ⊢; omega
      refine wR (gI ?_)
      repeat' (first | ((first | refine C_r ?_ | refine O_r ?_); (conv => whnf); first | (refine ⟨fun hb => ?_, fun hb => ?_⟩ <;> try exact no_way) | refine A_o ?_ | refine fR ?_) | fail)
      all_goals exact ⟨by rw [hr, hc]; rfl, rfl⟩
  | cons x rest ih =>
    intro done j c n h1 hj hc hn hr
    have hlen : s.data.toList.length = done.length + (rest.length + 1) := by rw [h1]; simp
    have hxj : s.data.toList[((j : Int)).toNat]? = some x := by rw [h1]; simp [hj]
    have c2 := refHexR x
    have c3 := refLetR x
    have c4 := refDigR x
    have hv := val_le x
    rw [numE] at hr
    have hin : innerF x = (letterF x || digitF x) := rfl
    rw [hin] at hr
    have hvi := val_lt_inner x
    generalize valF x = v at *
    cases k1 : decide (v < 16) with
    | false =>
      rw [k1] at hr
      simp only [cond_false] at hr
      have kv : ¬ v < 16 := by simpa using k1
      have stop : ∀ hx : Int, hx = (bif decide (v < 16) then (v : Int) else -1) → decide (hx ≥ 0) = false ∨ (decide (hx ≥ 0) = true ∧ decide (IntKind.u64.wrap hx < ((16 : Nat) : Int)) = false) := by
        intro hx e
        by_cases g : v < 16
        · rw [decide_eq_true g] at e
          simp only [cond_true] at e
          subst e
          refine .inr ⟨by rw [decide_eq_true_eq]; omega, ?_⟩
          rw [wrap_u64 (by omega) (by omega), decide_eq_false_iff_not]; omega
        · rw [decide_eq_false g] at e
          simp only [cond_false] at e
          subst e
          exact .inl rfl
      have stop := stop _ rfl
      generalize (bif decide (v < 16) then (v : Int) else -1) = hx at *
      cases k0 : (c == 0) with
      | true =>
        rw [k0] at hr
        have k0' : ((j : Int) == ((i + 2 : Nat) : Int)) = true := by rw [beq_iff_eq] at k0 ⊢; omega
        rcases stop with q1 | ⟨q1, q2⟩
        · refine wR (gI ?_)
          repeat' (first | ((first | refine C_r ?_ | refine O_r ?_); (conv => whnf); first | (refine ⟨fun hb => ?_, fun hb => ?_⟩ <;> try exact no_way) | refine A_o ?_ | refine B_o ?_ | refine fR ?_) | refine C_l (c2) ?_ | refine Xs_l ?_ | fail)
          exact ⟨by rw [hr]; rfl, rfl⟩
        · refine wR (gI ?_)
          repeat' (first | ((first | refine C_r ?_ | refine O_r ?_); (conv => whnf); first | (refine ⟨fun hb => ?_, fun hb => ?_⟩ <;> try exact no_way) | refine A_o ?_ | refine B_o ?_ | refine fR ?_) | refine C_l (c2) ?_ | refine Xs_l ?_ | fail)
          exact ⟨by rw [hr]; rfl, rfl⟩
      | false =>
        rw [k0] at hr
        simp only [Bool.false_or] at hr
        have k0' : ((j : Int) == ((i + 2 : Nat) : Int)) = false := by rw [beq_eq_false_iff_ne] at k0 ⊢; omega
        generalize letterF x = l1 at *
        generalize digitF x = l2 at *
        rcases stop with q1 | ⟨q1, q2⟩
        · refine wR (gI ?_)
          repeat' (first | ((first | refine C_r ?_ | refine O_r ?_); (conv => whnf); first | (refine ⟨fun hb => ?_, fun hb => ?_⟩ <;> try exact no_way) | refine A_o ?_ | refine B_o ?_ | refine fR ?_) | refine C_l (c2) ?_ | refine B_l (c3) (fun m1 => ?_) fun m1 => ?_ | refine B_l (c4) (fun m2 => ?_) fun m2 => ?_ | refine Xs_l ?_ | fail)
          · exact ⟨by rw [hr, m1]; rfl, rfl⟩
          · exact ⟨by rw [hr, m1, m2]; rfl, rfl⟩
          · exact ⟨by rw [hr, m1, m2, hc]; rfl, rfl⟩
        · refine wR (gI ?_)
          repeat' (first | ((first | refine C_r ?_ | refine O_r ?_); (conv => whnf); first | (refine ⟨fun hb => ?_, fun hb => ?_⟩ <;> try exact no_way) | refine A_o ?_ | refine B_o ?_ | refine fR ?_) | refine C_l (c2) ?_ | refine B_l (c3) (fun m1 => ?_) fun m1 => ?_ | refine B_l (c4) (fun m2 => ?_) fun m2 => ?_ | refine Xs_l ?_ | fail)
          · exact ⟨by rw [hr, m1]; rfl, rfl⟩
          · exact ⟨by rw [hr, m1, m2]; rfl, rfl⟩
          · exact ⟨by rw [hr, m1, m2, hc]; rfl, rfl⟩
    | true =>
      rw [k1] at hr
      simp only [cond_true] at hr
      have kv : v < 16 := by simpa using k1
      have e3 : (bif decide (v < 16) then (v : Int) else -1) = (v : Int) := by
        have : decide (v < 16) = true := by rw [decide_eq_true_eq]; omega
        rw [this]; rfl
      rw [e3] at c2
      have q1 : decide ((v : Int) ≥ 0) = true := by rw [decide_eq_true_eq]; omega
      have e4 : IntKind.u64.wrap (v : Int) = (v : Int) := wrap_u64 (by omega) (by omega)
      have q2 : decide (IntKind.u64.wrap (v : Int) < ((16 : Nat) : Int)) = true := by rw [e4, decide_eq_true_eq]; omega
      have e5 : IntKind.u64.wrap ((IntKind.u64.wrap (18446744073709551615 - IntKind.u64.wrap (v : Int))).tdiv ((16 : Nat) : Int)) = (((18446744073709551615 - v) / 16 : Nat) : Int) := by
        rw [e4, wrap_u64 (n := 18446744073709551615 - (v : Int)) (by omega) (by omega), Int.tdiv_eq_ediv_of_nonneg (by omega), wrap_u64 (by omega) (by omega)]
        omega
      cases k2 : decide (n * 16 + v < 18446744073709551616) with
      | false =>
        have kn : ¬ n * 16 + v < 18446744073709551616 := by simpa using k2
        rw [k2] at hr
        have q3 : decide ((n : Int) > IntKind.u64.wrap ((IntKind.u64.wrap (18446744073709551615 - IntKind.u64.wrap (v : Int))).tdiv ((16 : Nat) : Int))) = true := by
          rw [e5, decide_eq_true_eq]; omega
        refine wR (gI ?_)
        repeat' (first | ((first | refine C_r ?_ | refine O_r ?_); (conv => whnf); first | (refine ⟨fun hb => ?_, fun hb => ?_⟩ <;> try exact no_way) | refine B_o ?_ | refine fR ?_) | refine C_l (c2) ?_ | refine V_l ?_ | refine Xs_l ?_ | fail)
        all_goals exact ⟨by rw [hr]; rfl, rfl⟩
      | true =>
        have kn : n * 16 + v < 18446744073709551616 := by simpa using k2
        rw [k2] at hr
        simp only [cond_true] at hr
        have q3 : decide ((n : Int) > IntKind.u64.wrap ((IntKind.u64.wrap (18446744073709551615 - IntKind.u64.wrap (v : Int))).tdiv ((16 : Nat) : Int))) = false := by
          rw [e5, decide_eq_false_iff_not]; omega
        have e6 : IntKind.u64.wrap (IntKind.u64.wrap ((n : Int) * ((16 : Nat) : Int)) + IntKind.u64.wrap (v : Int)) = ((n * 16 + v : Nat) : Int) := by
          rw [e4, wrap_u64 (n := (n : Int) * ((16 : Nat) : Int)) (by omega) (by omega), wrap_u64 (by omega) (by omega)]
          omega
        have e7 : IntKind.i64.wrap ((j : Int) + 1) = ((j + 1 : Nat) : Int) := by rw [wrap_ok (by omega) (by omega)]; omega
        refine wR (gI ?_)
        repeat' (first | ((first | refine C_r ?_ | refine O_r ?_); (conv => whnf); first | (refine ⟨fun hb => ?_, fun hb => ?_⟩ <;> try exact no_way) | refine B_o ?_ | refine R_o ?_) | refine C_l (c2) ?_ | refine V_l ?_ | refine Xs_l ?_ | fail)
        rw [e6, e7]
        refine rE (ih (done ++ [x]) (j + 1) (c + 1) (n * 16 + v) (by rw [h1]; simp) ?_ ?_ kn hr)
        · simp [hj]
        · omega

end Go.Proofs.YtcmhpjnafkpofaaDoor
