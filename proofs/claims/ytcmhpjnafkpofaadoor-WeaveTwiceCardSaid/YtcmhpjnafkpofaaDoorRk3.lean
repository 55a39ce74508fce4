/- The document's reader of tokens: what tells nothing. -/
import Derived.Test.YtcmhpjnafkpofaaDoorRk1
set_option linter.unusedVariables false
set_option linter.unusedSimpArgs false
namespace Go.Proofs.YtcmhpjnafkpofaaDoor
open Go Go.Am Go.Proofs
attribute [local irreducible] W WL DL WO RoundEnd
set_option maxRecDepth 10000
set_option maxHeartbeats 4000000
set_option linter.unusedVariables false
set_option linter.unusedSimpArgs false
/-- how much tells nothing, one blank at a time -/
def skipF (u : ByteArray) (b : UInt8) : Option Int :=
  bif whiteF b then some 1 else
  bif preF u twoS then some (runF notNl u.data.toList 0) else
  bif preF u openS then (bif decide (Lib.index (u.extract 2 u.size).data.toList shutS.data.toList ≥ 0) then some (Lib.index (u.extract 2 u.size).data.toList shutS.data.toList + 2 + 2) else none) else
  some 0
def skipV (i : Nat) : Option Int → V
  | some n => .tup [.one (.d (.sc (.int .i64 ((i : Int) + n)))), .one (.d (.sc (.bool true)))]
  | none => .tup [.one (.d (.sc (.int .i64 0))), .one (.d (.sc (.bool false)))]
theorem skipW [GVals] (s : ByteArray) (i : Nat) (b : UInt8) (hs : s.size < 2 ^ 40) (h : s.data.toList[i]? = some b) (hw : whiteF b = true) : Comp Tryd.prog 35 [str s, int .i64 i] (skipV i (some 1)) := by
  have hi := (List.getElem?_eq_some_iff.1 h).1
  have hsz : s.size = s.data.toList.length := rfl
  have hx : s.data.toList[((i : Int)).toNat]? = some b := h
  have e1 : IntKind.i64.wrap ((i : Int) + 1) = (i : Int) + 1 := wrap_ok (by omega) (by omega)
  unfold whiteF at hw
  unfold skipV
  cases a1 : (b.toNat == 32) with
  | true =>
    have a1' : ((b.toNat : Int) == 32) = true := by rw [beq_iff_eq] at a1 ⊢; omega
    refine Spec.body (C := cx [] 66) fits (fn := Tryd.f35) Tryd.func35 rfl (by decide) (by decide) (gI ?_)
    repeat' (first | ((first | refine C_r ?_ | refine O_r ?_); (conv => whnf); first | (refine ⟨fun hb => ?_, fun hb => ?_⟩ <;> try exact no_way) | refine B_o ?_ | refine fR ?_) | refine Xs_l ?_ | fail)
    all_goals exact ⟨by rw [e1], rfl⟩
  | false =>
  have a1' : ((b.toNat : Int) == 32) = false := by rw [beq_eq_false_iff_ne] at a1 ⊢; omega
  cases a2 : (b.toNat == 9) with
  | true =>
    have a2' : ((b.toNat : Int) == 9) = true := by rw [beq_iff_eq] at a2 ⊢; omega
    refine Spec.body (C := cx [] 66) fits (fn := Tryd.f35) Tryd.func35 rfl (by decide) (by decide) (gI ?_)
    repeat' (first | ((first | refine C_r ?_ | refine O_r ?_); (conv => whnf); first | (refine ⟨fun hb => ?_, fun hb => ?_⟩ <;> try exact no_way) | refine B_o ?_ | refine fR ?_) | refine Xs_l ?_ | fail)
    all_goals exact ⟨by rw [e1], rfl⟩
  | false =>
  have a2' : ((b.toNat : Int) == 9) = false := by rw [beq_eq_false_iff_ne] at a2 ⊢; omega
  cases a3 : (b.toNat == 10) with
  | true =>
    have a3' : ((b.toNat : Int) == 10) = true := by rw [beq_iff_eq] at a3 ⊢; omega
    refine Spec.body (C := cx [] 66) fits (fn := Tryd.f35) Tryd.func35 rfl (by decide) (by decide) (gI ?_)
    repeat' (first | ((first | refine C_r ?_ | refine O_r ?_); (conv => whnf); first | (refine ⟨fun hb => ?_, fun hb => ?_⟩ <;> try exact no_way) | refine B_o ?_ | refine fR ?_) | refine Xs_l ?_ | fail)
    all_goals exact ⟨by rw [e1], rfl⟩
  | false =>
  have a3' : ((b.toNat : Int) == 10) = false := by rw [beq_eq_false_iff_ne] at a3 ⊢; omega
  have a4' : ((b.toNat : Int) == 13) = true := by
    rw [a1, a2, a3, Bool.false_or, Bool.false_or, Bool.false_or, beq_iff_eq] at hw
    rw [beq_iff_eq]; omega
  refine Spec.body (C := cx [] 66) fits (fn := Tryd.f35) Tryd.func35 rfl (by decide) (by decide) (gI ?_)
  repeat' (first | ((first | refine C_r ?_ | refine O_r ?_); (conv => whnf); first | (refine ⟨fun hb => ?_, fun hb => ?_⟩ <;> try exact no_way) | refine B_o ?_ | refine fR ?_) | refine Xs_l ?_ | fail)
  all_goals exact ⟨by rw [e1], rfl⟩
theorem white_no {b : UInt8} (hw : whiteF b = false) : ((b.toNat : Int) == 32) = false ∧ ((b.toNat : Int) == 9) = false ∧ ((b.toNat : Int) == 10) = false ∧ ((b.toNat : Int) == 13) = false := by
  unfold whiteF at hw
  simp only [Bool.or_eq_false_iff, beq_eq_false_iff_ne] at hw ⊢
  omega
theorem skipN [GVals] (s : ByteArray) (i : Nat) (b : UInt8) (hs : s.size < 2 ^ 40) (h : s.data.toList[i]? = some b) (hw : whiteF b = false) (h1 : preF (sfx s i) twoS = false) (h2 : preF (sfx s i) openS = false) : Comp Tryd.prog 35 [str s, int .i64 i] (skipV i (some 0)) := by
  have hi := (List.getElem?_eq_some_iff.1 h).1
  have hsz : s.size = s.data.toList.length := rfl
  have hx : s.data.toList[((i : Int)).toNat]? = some b := h
  obtain ⟨a1, a2, a3, a4⟩ := white_no hw
  have c1 := beginsR s twoS i (by omega) hs (by decide)
  have c2 := beginsR s openS i (by omega) hs (by decide)
  rw [h1] at c1
  rw [h2] at c2
  rw [show skipV i (some 0) = .tup [.one (.d (.sc (.int .i64 (i : Int)))), .one (.d (.sc (.bool true)))] from by unfold skipV; simp only [Int.add_zero]]
  refine Spec.body (C := cx [] 66) fits (fn := Tryd.f35) Tryd.func35 rfl (by decide) (by decide) (gI ?_)
  repeat' (first | ((first | refine C_r ?_ | refine O_r ?_); (conv => whnf); first | (refine ⟨fun hb => ?_, fun hb => ?_⟩ <;> try exact no_way) | refine B_o ?_ | refine fR ?_) | refine C_l (c1) ?_ | refine C_l (c2) ?_ | refine Xs_l ?_ | fail)
  all_goals exact ⟨rfl, rfl⟩
theorem skipL [GVals] (s : ByteArray) (i : Nat) (b : UInt8) (hs : s.size < 2 ^ 40) (h : s.data.toList[i]? = some b) (hw : whiteF b = false) (h1 : preF (sfx s i) twoS = true) : Comp Tryd.prog 35 [str s, int .i64 i] (skipV i (some (runF notNl (sfx s i).data.toList 0))) := by
  have hi := (List.getElem?_eq_some_iff.1 h).1
  have hsz : s.size = s.data.toList.length := rfl
  have hx : s.data.toList[((i : Int)).toNat]? = some b := h
  obtain ⟨a1, a2, a3, a4⟩ := white_no hw
  have c1 := beginsR s twoS i (by omega) hs (by decide)
  rw [h1] at c1
  rw [sfx_list]
  generalize hfb : skipV i (some (runF notNl (s.data.toList.drop i) 0)) = fb
  refine Spec.body (C := cx [] 66) fits (fn := Tryd.f35) Tryd.func35 rfl (by decide) (by decide) (gI ?_)
  repeat' (first | ((first | refine C_r ?_ | refine O_r ?_); (conv => whnf); first | (refine ⟨fun hb => ?_, fun hb => ?_⟩ <;> try exact no_way) | refine A_o ?_ | refine B_o ?_) | refine C_l (c1) ?_ | refine Xs_l ?_ | fail)
  refine wLoop [0, 1] 0 (s.data.toList.length - i + 1) ?_
  refine (fun key => (key (s.data.toList.drop i) (s.data.toList.take i) (i : Int) 0 (by simp) (by rw [List.length_take]; omega) (by omega) hfb.symm).mono (by rw [List.length_drop]; omega) :
    (∀ (rest done : List UInt8) (j n : Int), s.data.toList = done ++ rest → j = done.length → j = i + n → fb = skipV i (some (runF notNl rest n)) →
    WR2 _ _ _ _ _ (rest.length + 1) [(0, str s), (1, int .i64 j)] []) → _) ?_
  intro rest
  induction rest with
  | nil =>
    intro done j n g1 hj hn hr
    have hlen : s.data.toList.length = done.length := by rw [g1]; simp
    refine wR (gI ?_)
    repeat' (first | ((first | refine C_r ?_ | refine O_r ?_); (conv => whnf); first | (refine ⟨fun hb => ?_, fun hb => ?_⟩ <;> try exact no_way) | refine A_o ?_ | refine fR ?_) | fail)
    exact ⟨by rw [hr, hn]; rfl, rfl⟩
  | cons x rest ih =>
    intro done j n g1 hj hn hr
    have hlen : s.data.toList.length = done.length + (rest.length + 1) := by rw [g1]; simp
    rw [runF] at hr
    cases hc : notNl x with
    | true =>
      have hc' : (!((x.toNat : Int) == 10)) = true := by
        unfold notNl at hc
        rw [Bool.not_eq_true', beq_eq_false_iff_ne] at hc ⊢; omega
      rw [hc, if_pos rfl] at hr
      refine wR (gI ?_)
      repeat' (first | ((first | refine C_r ?_ | refine O_r ?_); (conv => whnf); first | (refine ⟨fun hb => ?_, fun hb => ?_⟩ <;> try exact no_way) | refine B_o ?_ | refine R_o ?_) | refine Xs_l ?_ | fail)
      refine rE (ih (done ++ [x]) _ (n + 1) (by rw [g1]; simp) ?_ ?_ hr)
      · rw [wrap_ok (by omega) (by omega)]; simp [hj]
      · rw [wrap_ok (by omega) (by omega)]; omega
    | false =>
      have hc' : (!((x.toNat : Int) == 10)) = false := by
        unfold notNl at hc
        rw [Bool.not_eq_false', beq_iff_eq] at hc ⊢; omega
      rw [hc, if_neg (by decide)] at hr
      refine wR (gI ?_)
      repeat' (first | ((first | refine C_r ?_ | refine O_r ?_); (conv => whnf); first | (refine ⟨fun hb => ?_, fun hb => ?_⟩ <;> try exact no_way) | refine A_o ?_ | refine B_o ?_ | refine fR ?_) | refine Xs_l ?_ | fail)
      exact ⟨by rw [hr, hn]; rfl, rfl⟩
theorem pre_eq (u t : ByteArray) : preF u t = t.data.toList.isPrefixOf u.data.toList := by
  have e1 : u.size = u.data.toList.length := rfl
  have e2 : t.size = t.data.toList.length := rfl
  rw [Bool.eq_iff_iff]
  unfold preF
  rw [Bool.and_eq_true, decide_eq_true_eq, List.isPrefixOf_iff_prefix, List.prefix_iff_eq_take, ba_beq, decide_eq_true_eq]
  have e3 : (u.extract 0 t.size).data.toList = u.data.toList.take t.data.toList.length := by rw [extract_list, List.drop_zero, e2]
  constructor
  · rintro ⟨h1, h2⟩
    rw [← e3, h2]
  · intro h
    have h3 : u.extract 0 t.size = t := ba_ext (by rw [e3, ← h])
    refine ⟨?_, h3⟩
    have := congrArg List.length h
    rw [List.length_take] at this
    omega
def cmtF (m : Int) (j : Int) : Option Int := bif decide (j ≥ 0) then some (m + j + 2) else none
theorem skipC [GVals] (s : ByteArray) (i : Nat) (b : UInt8) (hs : s.size < 2 ^ 40) (h : s.data.toList[i]? = some b) (hw : whiteF b = false) (h1 : preF (sfx s i) twoS = false) (h2 : preF (sfx s i) openS = true) : Comp Tryd.prog 35 [str s, int .i64 i] (skipV i (cmtF 2 (Lib.index (s.data.toList.drop (i + 2)) shutS.data.toList))) := by
  have hi := (List.getElem?_eq_some_iff.1 h).1
  have hsz : s.size = s.data.toList.length := rfl
  have hx : s.data.toList[((i : Int)).toNat]? = some b := h
  have h3 : i + 2 ≤ s.size := by
    have := pre_size h2
    rw [sfx_size] at this
    have : openS.size = 2 := rfl
    omega
  obtain ⟨a1, a2, a3, a4⟩ := white_no hw
  have c1 := beginsR s twoS i (by omega) hs (by decide)
  have c2 := beginsR s openS i (by omega) hs (by decide)
  rw [h1] at c1
  rw [h2] at c2
  generalize hfb : skipV i (cmtF 2 (Lib.index (s.data.toList.drop (i + 2)) shutS.data.toList)) = fb
  have e1 : IntKind.i64.wrap ((i : Int) + 2) = ((i + 2 : Nat) : Int) := by rw [wrap_ok (by omega) (by omega)]; omega
  refine Spec.body (C := cx [] 66) fits (fn := Tryd.f35) Tryd.func35 rfl (by decide) (by decide) (gI ?_)
  repeat' (first | ((first | refine C_r ?_ | refine O_r ?_); (conv => whnf); first | (refine ⟨fun hb => ?_, fun hb => ?_⟩ <;> try exact no_way) | refine A_o ?_ | refine B_o ?_) | refine C_l (c1) ?_ | refine C_l (c2) ?_ | refine Xs_l ?_ | fail)
  rw [e1]
  refine wLoop [0, 6] 0 (s.data.toList.length - (i + 2) + 1) ?_
  refine (fun key => (key (s.data.toList.drop (i + 2)) (s.data.toList.take (i + 2)) (i + 2) 2 (by simp) (by rw [List.length_take]; omega) (by omega) hfb.symm).mono (by rw [List.length_drop]; omega) :
    (∀ (rest done : List UInt8) (j n : Nat), s.data.toList = done ++ rest → j = done.length → j = i + n → fb = skipV i (cmtF n (Lib.index rest shutS.data.toList)) →
    WR2 _ _ _ _ _ (rest.length + 1) [(0, str s), (6, int .i64 j)] []) → _) ?_
  intro rest
  induction rest with
  | nil =>
    intro done j n g1 hj hn hr
    have hlen : s.data.toList.length = done.length := by rw [g1]; simp
    refine wR (gI ?_)
    repeat' (first | ((first | refine C_r ?_ | refine O_r ?_); (conv => whnf); first | (refine ⟨fun hb => ?_, fun hb => ?_⟩ <;> try exact no_way) | refine A_o ?_ | refine fR ?_) | fail)
    exact ⟨by rw [hr]; rfl, rfl⟩
  | cons x rest ih =>
    intro done j n g1 hj hn hr
    have hlen : s.data.toList.length = done.length + (rest.length + 1) := by rw [g1]; simp
    have c3 := beginsR s shutS j (by omega) hs (by decide)
    have hdr : s.data.toList.drop j = x :: rest := by rw [g1, hj]; simp
    rw [pre_eq, sfx_list, hdr] at c3
    rw [Lib.index] at hr
    cases hc : shutS.data.toList.isPrefixOf (x :: rest) with
    | true =>
      rw [hc] at c3
      rw [hc, if_pos rfl] at hr
      have e2 : IntKind.i64.wrap ((j : Int) + 2) = (i : Int) + (n + 0 + 2) := by rw [wrap_ok (by omega) (by omega)]; omega
      refine wR (gI ?_)
      repeat' (first | ((first | refine C_r ?_ | refine O_r ?_); (conv => whnf); first | (refine ⟨fun hb => ?_, fun hb => ?_⟩ <;> try exact no_way) | refine B_o ?_ | refine fR ?_) | refine C_l (c3) ?_ | fail)
      exact ⟨by rw [hr, e2]; rfl, rfl⟩
    | false =>
      rw [hc] at c3
      rw [hc, if_neg (by decide)] at hr
      refine wR (gI ?_)
      repeat' (first | ((first | refine C_r ?_ | refine O_r ?_); (conv => whnf); first | (refine ⟨fun hb => ?_, fun hb => ?_⟩ <;> try exact no_way) | refine B_o ?_ | refine R_o ?_) | refine C_l (c3) ?_ | fail)
      have e2 : IntKind.i64.wrap ((j : Int) + 1) = ((j + 1 : Nat) : Int) := by rw [wrap_ok (by omega) (by omega)]; omega
      rw [e2]
      refine rE (ih (done ++ [x]) (j + 1) (n + 1) (by rw [g1]; simp) ?_ ?_ ?_)
      · simp [hj]
      · omega
      · rw [hr]
        have hb := (index_bound rest shutS.data.toList).1
        generalize Lib.index rest shutS.data.toList = q at *
        congr 1
        unfold cmtF
        by_cases hq : q = -1
        · subst hq; rfl
        · rw [if_neg (by simpa using hq)]
          have k1 : decide (q + 1 ≥ 0) = true := by rw [decide_eq_true_eq]; omega
          have k2 : decide (q ≥ 0) = true := by rw [decide_eq_true_eq]; omega
          rw [k1, k2]
          simp only [cond_true, Option.some.injEq]
          omega
theorem skipR [GVals] (s : ByteArray) (i : Nat) (b : UInt8) (hs : s.size < 2 ^ 40) (h : s.data.toList[i]? = some b) : Comp Tryd.prog 35 [str s, int .i64 i] (skipV i (skipF (sfx s i) b)) := by
  unfold skipF
  cases hw : whiteF b with
  | true => exact skipW s i b hs h hw
  | false =>
    cases h1 : preF (sfx s i) twoS with
    | true => exact skipL s i b hs h hw h1
    | false =>
      cases h2 : preF (sfx s i) openS with
      | true =>
        have := skipC s i b hs h hw h1 h2
        have e : ((sfx s i).extract 2 (sfx s i).size).data.toList = s.data.toList.drop (i + 2) := by rw [ext_list, sfx_list, List.drop_drop]
        simp only [cond_false, cond_true]
        rw [e]
        unfold cmtF at this
        have e3 : Lib.index (s.data.toList.drop (i + 2)) shutS.data.toList + 2 + 2 = 2 + Lib.index (s.data.toList.drop (i + 2)) shutS.data.toList + 2 := by omega
        rw [e3]
        exact this
      | false => exact skipN s i b hs h hw h1 h2
end Go.Proofs.YtcmhpjnafkpofaaDoor
