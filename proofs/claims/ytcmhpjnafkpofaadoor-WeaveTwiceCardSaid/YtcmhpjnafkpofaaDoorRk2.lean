/- The document's reader of tokens: signs, what tells nothing. -/
import Derived.Test.YtcmhpjnafkpofaaDoorRk1
set_option linter.unusedVariables false
set_option linter.unusedSimpArgs false
namespace Go.Proofs.YtcmhpjnafkpofaaDoor
open Go Go.Am Go.Proofs
attribute [local irreducible] W WL DL WO RoundEnd
set_option maxRecDepth 10000
set_option maxHeartbeats 4000000
set_option linter.unusedVariables false
set_option linter.unusedSimpArgs false
theorem byte_beq (x b : UInt8) : ((x.toNat : Int) == (b.toNat : Int)) = (x == b) := by
  rw [Bool.eq_iff_iff, beq_iff_eq, beq_iff_eq]
  constructor
  · intro h; exact UInt8.toNat_inj.1 (by omega)
  · intro h; rw [h]
theorem sfx_at (s : ByteArray) (i : Nat) {b : UInt8} (h : s.data.toList[i]? = some b) : (sfx s i).data.toList[0]? = some b := by
  rw [sfx_list, List.getElem?_drop]; simpa using h
theorem refSignR [GVals] (s : ByteArray) (i : Nat) (b : UInt8) (hs : s.size < 2 ^ 40) (h : s.data.toList[i]? = some b) : Comp Tryd.prog 51 [str s, int .i64 i] (int .i64 (signF (sfx s i))) := by
  have hi := (List.getElem?_eq_some_iff.1 h).1
  have hsz : s.size = s.data.toList.length := rfl
  have h0 := sfx_at s i h
  have hx : s.data.toList[((i : Int)).toNat]? = some b := h
  have e1 : IntKind.i64.wrap ((i : Int) + 1) = ((i + 1 : Nat) : Int) := by rw [wrap_ok (by omega) (by omega)]; omega
  have e2 : IntKind.i64.wrap ((i : Int) + 2) = ((i + 2 : Nat) : Int) := by rw [wrap_ok (by omega) (by omega)]; omega
  have hone : signF (sfx s i) = (bif decide (((sfx s i).size : Int) > 1) && twos.any ((sfx s i).extract 0 2 == ·) then 2 else (bif oneS.data.toList.any (· == b) then 1 else 0)) := by
    unfold signF; rw [h0]
  rw [hone, sfx_size, sfx_extract]
  cases k1 : decide (((s.size - i : Nat) : Int) > 1) with
  | false =>
    rw [decide_eq_false_iff_not] at k1
    have g1 : decide (IntKind.i64.wrap ((i : Int) + 1) < (s.size : Int)) = false := by rw [e1, decide_eq_false_iff_not]; omega
    simp only [Bool.false_and, cond_false]
    generalize hfb : int .i64 (bif oneS.data.toList.any (· == b) then 1 else 0) = fb
    refine Spec.body (C := cx [] 39) fits (fn := Tryd.f51) Tryd.func51 rfl (by decide) (by decide) (gI ?_)
    repeat' (first | ((first | refine C_r ?_ | refine O_r ?_); (conv => whnf); first | (refine ⟨fun hb => ?_, fun hb => ?_⟩ <;> try exact no_way) | refine A_o ?_) | fail)
    refine wLoop [0, 1, 6, 7] 0 11 ?_
    refine (fun key => key oneS.data.toList [] _ rfl rfl hfb.symm :
      (∀ (rest done : List UInt8) (j : Int), oneS.data.toList = done ++ rest → j = done.length → fb = int .i64 (bif rest.any (· == b) then 1 else 0) →
      WR2 _ _ _ _ _ (rest.length + 1) [(0, str s), (1, int .i64 i), (6, str oneS), (7, int .i64 j)] []) → _) ?_
    have hos : oneS.size = oneS.data.toList.length := rfl
    have hos2 : oneS.data.toList.length = 10 := by decide
    generalize oneS = os at *
    intro rest
    induction rest with
    | nil =>
      intro done j h1 hj hr
      have hlen : os.data.toList.length = done.length := by rw [h1]; simp
      refine wR (gI ?_)
      repeat' (first | ((first | refine C_r ?_ | refine O_r ?_); (conv => whnf); first | (refine ⟨fun hb => ?_, fun hb => ?_⟩ <;> try exact no_way) | refine A_o ?_ | refine fR ?_) | fail)
      exact ⟨by rw [hr]; rfl, rfl⟩
    | cons x rest ih =>
      intro done j h1 hj hr
      have hlen : os.data.toList.length = done.length + (rest.length + 1) := by rw [h1]; simp
      rw [List.any_cons] at hr
      refine wR (gI ?_)
      repeat' (first | ((first | refine C_r ?_ | refine O_r ?_ | refine R_r ?_); (conv => whnf); first | (refine ⟨fun hb => ?_, fun hb => ?_⟩ <;> try exact no_way) | refine C_o ?_ | refine R_o ?_ | refine fR ?_) | refine Xs_d ?_ | fail)
      · rw [byte_beq] at hb
        exact ⟨by rw [hr, hb]; rfl, rfl⟩
      · rw [byte_beq] at hb
        rw [hb] at hr
        refine rE (ih (done ++ [x]) _ (by rw [h1]; simp) ?_ hr)
        rw [wrap_ok (by omega) (by omega)]; simp [hj]
  | true =>
    rw [decide_eq_true_eq] at k1
    have g1 : decide (IntKind.i64.wrap ((i : Int) + 1) < (s.size : Int)) = true := by rw [e1, decide_eq_true_eq]; omega
    have g2 : (IntKind.i64.wrap ((i : Int) + 2)).toNat = i + 2 := by rw [e2]; omega
    have g3 : 0 ≤ IntKind.i64.wrap ((i : Int) + 2) ∧ (i : Int) ≤ IntKind.i64.wrap ((i : Int) + 2) ∧ IntKind.i64.wrap ((i : Int) + 2) ≤ (s.size : Int) := by rw [e2]; omega
    simp only [Bool.true_and, Nat.add_zero]
    rw [← g2, show s.extract i (IntKind.i64.wrap ((i : Int) + 2)).toNat = s.extract ((i : Int)).toNat (IntKind.i64.wrap ((i : Int) + 2)).toNat from rfl]
    generalize htw : twos.any (s.extract ((i : Int)).toNat (IntKind.i64.wrap ((i : Int) + 2)).toNat == ·) = tw
    generalize hfb : int .i64 (bif tw then 2 else bif oneS.data.toList.any (· == b) then 1 else 0) = fb
    simp only [twos, List.any_cons, List.any_nil, Bool.or_false] at htw
    refine Spec.body (C := cx [] 39) fits (fn := Tryd.f51) Tryd.func51 rfl (by decide) (by decide) (gI ?_)
    repeat' (first | ((first | refine C_r ?_ | refine O_r ?_); (conv => whnf); first | (refine ⟨fun hb => ?_, fun hb => ?_⟩ <;> try exact no_way) | refine A_o ?_ | refine B_o ?_ | refine fR ?_) | refine Kz_l ?_ | fail)
    all_goals try (have ht : tw = true := by (rw [← htw]; simp only [hb, Bool.true_or, Bool.or_true])
                   rw [← hfb, ht]; exact ⟨rfl, rfl⟩)
    have ht : tw = false := by
      clear e1 e2 hone g2 h0
      rw [← htw]
      simp only [*, Bool.or_false]
    rw [ht] at hfb
    simp only [cond_false] at hfb
    clear htw
    refine wLoop [0, 1, 6, 7] 0 11 ?_
    refine (fun key => key oneS.data.toList [] _ rfl rfl hfb.symm :
      (∀ (rest done : List UInt8) (j : Int), oneS.data.toList = done ++ rest → j = done.length → fb = int .i64 (bif rest.any (· == b) then 1 else 0) →
      WR2 _ _ _ _ _ (rest.length + 1) [(0, str s), (1, int .i64 i), (6, str oneS), (7, int .i64 j)] []) → _) ?_
    have hos : oneS.size = oneS.data.toList.length := rfl
    have hos2 : oneS.data.toList.length = 10 := by decide
    generalize oneS = os at *
    intro rest
    induction rest with
    | nil =>
      intro done j h1 hj hr
      have hlen : os.data.toList.length = done.length := by rw [h1]; simp
      refine wR (gI ?_)
      repeat' (first | ((first | refine C_r ?_ | refine O_r ?_); (conv => whnf); first | (refine ⟨fun hb => ?_, fun hb => ?_⟩ <;> try exact no_way) | refine A_o ?_ | refine fR ?_) | fail)
      exact ⟨by rw [hr]; rfl, rfl⟩
    | cons x rest ih =>
      intro done j h1 hj hr
      have hlen : os.data.toList.length = done.length + (rest.length + 1) := by rw [h1]; simp
      rw [List.any_cons] at hr
      refine wR (gI ?_)
      repeat' (first | ((first | refine C_r ?_ | refine O_r ?_ | refine R_r ?_); (conv => whnf); first | (refine ⟨fun hb => ?_, fun hb => ?_⟩ <;> try exact no_way) | refine C_o ?_ | refine R_o ?_ | refine fR ?_) | refine Xs_d ?_ | fail)
      · rw [byte_beq] at hb
        exact ⟨by rw [hr, hb]; rfl, rfl⟩
      · rw [byte_beq] at hb
        rw [hb] at hr
        refine rE (ih (done ++ [x]) _ (by rw [h1]; simp) ?_ hr)
        rw [wrap_ok (by omega) (by omega)]; simp [hj]
end Go.Proofs.YtcmhpjnafkpofaaDoor
