/- The document's reader of tokens: the token at a place: words, numbers, signs. -/
import Derived.Test.YtcmhpjnafkpofaaDoorRk6
import Derived.Test.YtcmhpjnafkpofaaDoorRk2
set_option linter.unusedVariables false
set_option linter.unusedSimpArgs false
namespace Go.Proofs.YtcmhpjnafkpofaaDoor
open Go Go.Am Go.Proofs
attribute [local irreducible] W WL DL WO RoundEnd
set_option maxRecDepth 10000
set_option maxHeartbeats 4000000
set_option linter.unusedVariables false
set_option linter.unusedSimpArgs false
def oneV (i : Nat) : Option (Int × Int × ByteArray) → V
  | some (k, n, t) => .tup [.agg [.d (.sc (.int .i64 k)), .d (.sc (.string t)), .d (.sc (.int .i64 0)), .d (.sc (.complex .f64 0 0))], .one (.d (.sc (.int .i64 ((i : Int) + n)))), .one (.d (.sc (.bool true)))]
  | none => .tup [.agg [.d (.sc (.int .i64 0)), .d (.sc (.string ⟨#[]⟩)), .d (.sc (.int .i64 0)), .d (.sc (.complex .f64 0 0))], .one (.d (.sc (.int .i64 0))), .one (.d (.sc (.bool false)))]
theorem oneW [GVals] (s : ByteArray) (i : Nat) (b : UInt8) (hs : s.size < 2 ^ 40) (h : s.data.toList[i]? = some b) (k1 : letterF b = true) : Comp Tryd.prog 36 [str s, int .i64 i] (oneV i (some (1, wdN (sfx s i), (sfx s i).extract 0 (wdN (sfx s i)).toNat))) := by
  have hi := (List.getElem?_eq_some_iff.1 h).1
  have hsz : s.size = s.data.toList.length := rfl
  have hx : s.data.toList[((i : Int)).toNat]? = some b := h
  have c1 := refLetR b
  rw [k1] at c1
  have hE : oneV i (some (1, wdN (sfx s i), (sfx s i).extract 0 (wdN (sfx s i)).toNat)) = oneV i (some (1, runF innerF (s.data.toList.drop i) 0, s.extract i (i + (runF innerF (s.data.toList.drop i) 0).toNat))) := by
    unfold wdN
    rw [sfx_extract, sfx_list]; rfl
  rw [hE]
  generalize hfb : oneV i (some (1, runF innerF (s.data.toList.drop i) 0, s.extract i (i + (runF innerF (s.data.toList.drop i) 0).toNat))) = fb
  refine Spec.body (C := cx [] 172) fits (fn := Tryd.f36) Tryd.func36 rfl (by decide) (by decide) (gI ?_)
  repeat' (first | ((first | refine C_r ?_ | refine O_r ?_); (conv => whnf); first | refine A_o ?_ | refine B_o ?_) | refine C_l (c1) ?_ | refine Xs_l ?_ | fail)
  refine wLoop [0, 1, 4, 8] 1 (s.data.toList.length - i + 1) ?_
  refine (fun key => (key (s.data.toList.drop i) (s.data.toList.take i) i 0 (by simp) (by rw [List.length_take]; omega) (by omega) hfb.symm).mono (by rw [List.length_drop]; omega) :
    (∀ (rest done : List UInt8) (j n : Nat), s.data.toList = done ++ rest → j = done.length → j = i + n → fb = oneV i (some (1, runF innerF rest n, s.extract i (i + (runF innerF rest n).toNat))) →
    WR2 _ _ _ _ _ (rest.length + 1) [(0, str s), (1, int .i64 i), (4, .one (.ptr 0 0)), (8, int .i64 j)] [.var [.d (.sc (.int .i64 0)), .d (.sc (.string ⟨#[]⟩)), .d (.sc (.int .i64 0)), .d (.sc (.complex .f64 0 0))]]) → _) ?_
  clear hfb hE c1
  intro rest
  induction rest with
  | nil =>
    intro done j n g1 hj hn hr
    have hlen : s.data.toList.length = done.length := by rw [g1]; simp
    rw [runF, show ((n : Int)).toNat = n from by omega, ← hn] at hr
    have e2 : ((i : Int) + (n : Int)) = (j : Int) := by omega
    unfold oneV at hr
    simp only [e2] at hr
    refine wR (gI ?_)
    repeat' (first | ((first | refine C_r ?_ | refine O_r ?_); (conv => whnf); first | (refine ⟨fun hb => ?_, fun hb => ?_⟩ <;> try exact no_way) | refine A_o ?_ | refine B_o ?_ | refine fR ?_) | refine Kz_l ?_ | fail)
    exact ⟨by rw [hr]; rfl, rfl⟩
  | cons x rest ih =>
    intro done j n g1 hj hn hr
    have hlen : s.data.toList.length = done.length + (rest.length + 1) := by rw [g1]; simp
    have hxj : s.data.toList[((j : Int)).toNat]? = some x := by rw [g1]; simp [hj]
    have c3 := refLetR x
    have c4 := refDigR x
    rw [runF, show innerF x = (letterF x || digitF x) from rfl] at hr
    have stop : (letterF x || digitF x) = false → fb = .tup [.agg [.d (.sc (.int .i64 1)), .d (.sc (.string (s.extract i j))), .d (.sc (.int .i64 0)), .d (.sc (.complex .f64 0 0))], .one (.d (.sc (.int .i64 (j : Int)))), .one (.d (.sc (.bool true)))] := by
      intro hb
      rw [hb, if_neg (by decide), show ((n : Int)).toNat = n from by omega, ← hn] at hr
      have e2 : ((i : Int) + (n : Int)) = (j : Int) := by omega
      unfold oneV at hr
      simp only [e2] at hr
      exact hr
    have go : (letterF x || digitF x) = true → fb = oneV i (some (1, runF innerF rest ((n + 1 : Nat) : Int), s.extract i (i + (runF innerF rest ((n + 1 : Nat) : Int)).toNat))) := by
      intro hb
      rw [hb, if_pos rfl] at hr
      exact hr
    have e7 : IntKind.i64.wrap ((j : Int) + 1) = ((j + 1 : Nat) : Int) := by rw [wrap_ok (by omega) (by omega)]; omega
    clear hr
    generalize letterF x = l1 at *
    generalize digitF x = l2 at *
    refine wR (gI ?_)
    repeat' (first | ((first | refine C_r ?_ | refine O_r ?_); (conv => whnf); first | (refine ⟨fun hb => ?_, fun hb => ?_⟩ <;> try exact no_way) | refine A_o ?_ | refine B_o ?_ | refine R_o ?_ | refine fR ?_) | refine B_l (c3) (fun m1 => ?_) fun m1 => ?_ | refine B_l (c4) (fun m2 => ?_) fun m2 => ?_ | refine Xs_l ?_ | refine Kz_l ?_ | fail)
    · rw [e7]
      refine rE (ih (done ++ [x]) (j + 1) (n + 1) (by rw [g1]; simp) (by simp [hj]) (by omega) (go (by rw [m1]; rfl)))
    · rw [e7]
      refine rE (ih (done ++ [x]) (j + 1) (n + 1) (by rw [g1]; simp) (by simp [hj]) (by omega) (go (by rw [m1, m2]; rfl)))
    · exact ⟨by rw [stop (by rw [m1, m2]; rfl)]; rfl, rfl⟩
theorem oneDYes [GVals] (s : ByteArray) (i : Nat) (b : UInt8) (n : Nat) (e : Int) (hx : s.data.toList[((i : Int)).toNat]? = some b) (c1 : Comp Tryd.prog 48 [int .u8 b.toNat] (bool false)) (c2 : Comp Tryd.prog 49 [int .u8 b.toNat] (bool true)) (c3 : Comp Tryd.prog 50 [str s, int .i64 i] (.tup [.one (.d (.sc (.int .u64 (n : Int)))), .one (.d (.sc (.int .i64 e))), .one (.d (.sc (.bool true)))])) (b1 : (i : Int) ≤ e) (b2 : e ≤ (s.size : Int)) : Comp Tryd.prog 36 [str s, int .i64 i] (.tup [.agg [.d (.sc (.int .i64 2)), .d (.sc (.string (s.extract ((i : Int)).toNat e.toNat))), .d (.sc (.int .i64 0)), .d (.sc (.complex .f64 0 0))], .one (.d (.sc (.int .i64 e))), .one (.d (.sc (.bool true)))]) := by
  refine Spec.body (C := cx [] 172) fits (fn := Tryd.f36) Tryd.func36 rfl (by decide) (by decide) (gI ?_)
  repeat' (first | ((first | refine C_r ?_ | refine O_r ?_); (conv => whnf); first | (refine ⟨fun hb => ?_, fun hb => ?_⟩ <;> try exact no_way) | refine B_o ?_ | refine fR ?_) | refine C_l (c1) ?_ | refine C_l (c2) ?_ | refine C_l (c3) ?_ | refine Xs_l ?_ | refine Kz_l ?_ | fail)
  all_goals exact ⟨rfl, rfl⟩
theorem oneDNo [GVals] (s : ByteArray) (i : Nat) (b : UInt8) (hx : s.data.toList[((i : Int)).toNat]? = some b) (c1 : Comp Tryd.prog 48 [int .u8 b.toNat] (bool false)) (c2 : Comp Tryd.prog 49 [int .u8 b.toNat] (bool true)) (c3 : Comp Tryd.prog 50 [str s, int .i64 i] (.tup [.one (.d (.sc (.int .u64 0))), .one (.d (.sc (.int .i64 0))), .one (.d (.sc (.bool false)))])) : Comp Tryd.prog 36 [str s, int .i64 i] (oneV i none) := by
  unfold oneV
  refine Spec.body (C := cx [] 172) fits (fn := Tryd.f36) Tryd.func36 rfl (by decide) (by decide) (gI ?_)
  repeat' (first | ((first | refine C_r ?_ | refine O_r ?_); (conv => whnf); first | (refine ⟨fun hb => ?_, fun hb => ?_⟩ <;> try exact no_way) | refine B_o ?_ | refine fR ?_) | refine C_l (c1) ?_ | refine C_l (c2) ?_ | refine C_l (c3) ?_ | refine Xs_l ?_ | fail)
  all_goals exact ⟨rfl, rfl⟩
theorem oneD [GVals] (s : ByteArray) (i : Nat) (b : UInt8) (hs : s.size < 2 ^ 40) (h : s.data.toList[i]? = some b) (k1 : letterF b = false) (k2 : digitF b = true) : Comp Tryd.prog 36 [str s, int .i64 i] (oneV i (bif numOk ((sfx s i).extract 0 (wdN (sfx s i)).toNat) then some (2, wdN (sfx s i), (sfx s i).extract 0 (wdN (sfx s i)).toNat) else none)) := by
  have hi := (List.getElem?_eq_some_iff.1 h).1
  have hsz : s.size = s.data.toList.length := rfl
  have hx : s.data.toList[((i : Int)).toNat]? = some b := h
  have c1 := refLetR b
  have c2 := refDigR b
  rw [k1] at c1
  rw [k2] at c2
  obtain ⟨n, c3⟩ := refNumR s i b hs h
  rw [numN_eq] at c3
  cases hok : numOk ((sfx s i).extract 0 (wdN (sfx s i)).toNat) with
  | true =>
    rw [hok] at c3
    have hw := run_size innerF (sfx s i)
    rw [sfx_size] at hw
    have hw : 0 ≤ wdN (sfx s i) ∧ wdN (sfx s i) ≤ ((s.size - i : Nat) : Int) := hw
    rw [sfx_extract]
    generalize wdN (sfx s i) = m at *
    simp only [cond_true, numOV] at c3 ⊢
    have hm : i + m.toNat = ((i : Int) + m).toNat := by omega
    unfold oneV
    simp only [Nat.add_zero]
    rw [hm]
    exact oneDYes s i b n _ hx c1 c2 c3 (by omega) (by omega)
  | false =>
    rw [hok] at c3
    simp only [cond_false, numOV] at c3 ⊢
    exact oneDNo s i b hx c1 c2 c3
end Go.Proofs.YtcmhpjnafkpofaaDoor
