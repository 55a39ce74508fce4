/- The document's reader of tokens: the token at a place: signs, strings. -/
import Derived.Test.YtcmhpjnafkpofaaDoorRk7
set_option linter.unusedVariables false
set_option linter.unusedSimpArgs false
namespace Go.Proofs.YtcmhpjnafkpofaaDoor
open Go Go.Am Go.Proofs
attribute [local irreducible] W WL DL WO RoundEnd
set_option maxRecDepth 10000
set_option maxHeartbeats 4000000
set_option linter.unusedVariables false
set_option linter.unusedSimpArgs false
theorem oneSYes [GVals] (s : ByteArray) (i : Nat) (b : UInt8) (n : Int) (hx : s.data.toList[((i : Int)).toNat]? = some b) (c1 : Comp Tryd.prog 48 [int .u8 b.toNat] (bool false)) (c2 : Comp Tryd.prog 49 [int .u8 b.toNat] (bool false)) (k3 : ((b.toNat : Int) == 34) = false) (k4 : ((b.toNat : Int) == 35) = false) (c5 : Comp Tryd.prog 51 [str s, int .i64 i] (int .i64 n)) (q : (n == 0) = false) (b0 : 0 ≤ IntKind.i64.wrap ((i : Int) + n)) (b1 : (i : Int) ≤ IntKind.i64.wrap ((i : Int) + n)) (b2 : IntKind.i64.wrap ((i : Int) + n) ≤ (s.size : Int)) : Comp Tryd.prog 36 [str s, int .i64 i] (.tup [.agg [.d (.sc (.int .i64 3)), .d (.sc (.string (s.extract ((i : Int)).toNat (IntKind.i64.wrap ((i : Int) + n)).toNat))), .d (.sc (.int .i64 0)), .d (.sc (.complex .f64 0 0))], .one (.d (.sc (.int .i64 (IntKind.i64.wrap ((i : Int) + n))))), .one (.d (.sc (.bool true)))]) := by
  refine Spec.body (C := cx [] 172) fits (fn := Tryd.f36) Tryd.func36 rfl (by decide) (by decide) (gI ?_)
  repeat' (first | ((first | refine C_r ?_ | refine O_r ?_); (conv => whnf); first | (refine ⟨fun hb => ?_, fun hb => ?_⟩ <;> try exact no_way) | refine B_o ?_ | refine fR ?_) | refine C_l (c1) ?_ | refine C_l (c2) ?_ | refine C_l (c5) ?_ | refine Xs_l ?_ | refine Kz_l ?_ | fail)
  all_goals exact ⟨rfl, rfl⟩
theorem oneSNo [GVals] (s : ByteArray) (i : Nat) (b : UInt8) (hx : s.data.toList[((i : Int)).toNat]? = some b) (c1 : Comp Tryd.prog 48 [int .u8 b.toNat] (bool false)) (c2 : Comp Tryd.prog 49 [int .u8 b.toNat] (bool false)) (k3 : ((b.toNat : Int) == 34) = false) (k4 : ((b.toNat : Int) == 35) = false) (c5 : Comp Tryd.prog 51 [str s, int .i64 i] (int .i64 0)) : Comp Tryd.prog 36 [str s, int .i64 i] (oneV i none) := by
  unfold oneV
  refine Spec.body (C := cx [] 172) fits (fn := Tryd.f36) Tryd.func36 rfl (by decide) (by decide) (gI ?_)
  repeat' (first | ((first | refine C_r ?_ | refine O_r ?_); (conv => whnf); first | (refine ⟨fun hb => ?_, fun hb => ?_⟩ <;> try exact no_way) | refine B_o ?_ | refine fR ?_) | refine C_l (c1) ?_ | refine C_l (c2) ?_ | refine C_l (c5) ?_ | refine Xs_l ?_ | fail)
  all_goals exact ⟨rfl, rfl⟩
/-- a string: what its end makes of it -/
def txtG (s : ByteArray) (i j : Nat) : Option (Int × Int × ByteArray) :=
  match s.data.toList[j]? with
  | some b => bif b.toNat == 34 then some (4, ((j + 1 - i : Nat) : Int), s.extract (i + 1) j) else none
  | none => none
theorem oneT [GVals] (s : ByteArray) (i : Nat) (b : UInt8) (hs : s.size < 2 ^ 40) (h : s.data.toList[i]? = some b) (hx : s.data.toList[((i : Int)).toNat]? = some b) (c1 : Comp Tryd.prog 48 [int .u8 b.toNat] (bool false)) (c2 : Comp Tryd.prog 49 [int .u8 b.toNat] (bool false)) (k3 : ((b.toNat : Int) == 34) = true) : Comp Tryd.prog 36 [str s, int .i64 i] (oneV i (txtG s i (i + 1 + (runF notQ (s.data.toList.drop (i + 1)) 0).toNat))) := by
  have hi := (List.getElem?_eq_some_iff.1 h).1
  have hsz : s.size = s.data.toList.length := rfl
  have e1 : IntKind.i64.wrap ((i : Int) + 1) = ((i + 1 : Nat) : Int) := by rw [wrap_ok (by omega) (by omega)]; omega
  generalize hfb : oneV i (txtG s i (i + 1 + (runF notQ (s.data.toList.drop (i + 1)) 0).toNat)) = fb
  refine Spec.body (C := cx [] 172) fits (fn := Tryd.f36) Tryd.func36 rfl (by decide) (by decide) (gI ?_)
  repeat' (first | ((first | refine C_r ?_ | refine O_r ?_); (conv => whnf); first | (refine ⟨fun hb => ?_, fun hb => ?_⟩ <;> try exact no_way) | refine A_o ?_ | refine B_o ?_) | refine C_l (c1) ?_ | refine C_l (c2) ?_ | refine Xs_l ?_ | fail)
  rw [e1]
  refine wLoop [0, 1, 4, 8] 1 (s.data.toList.length - (i + 1) + 1) ?_
  refine (fun key => (key (s.data.toList.drop (i + 1)) (s.data.toList.take (i + 1)) (i + 1) 0 (by simp) (by rw [List.length_take]; omega) (by omega) hfb.symm).mono (by rw [List.length_drop]; omega) :
    (∀ (rest done : List UInt8) (j n : Nat), s.data.toList = done ++ rest → j = done.length → j = i + 1 + n → fb = oneV i (txtG s i (i + 1 + (runF notQ rest n).toNat)) →
    WR2 _ _ _ _ _ (rest.length + 1) [(0, str s), (1, int .i64 i), (4, .one (.ptr 0 0)), (8, int .i64 j)] [.var [.d (.sc (.int .i64 0)), .d (.sc (.string ⟨#[]⟩)), .d (.sc (.int .i64 0)), .d (.sc (.complex .f64 0 0))]]) → _) ?_
  clear hfb c1 c2 h hx k3
  intro rest
  induction rest with
  | nil =>
    intro done j n g1 hj hn hr
    have hlen : s.data.toList.length = done.length := by rw [g1]; simp
    rw [runF, show ((n : Int)).toNat = n from by omega, ← hn] at hr
    have hnone : s.data.toList[j]? = none := by rw [List.getElem?_eq_none_iff]; omega
    have hr2 : fb = oneV i none := by rw [hr]; unfold txtG; rw [hnone]
    have q : ((j : Int) == (s.size : Int)) = true := by rw [beq_iff_eq]; omega
    clear hr
    refine wR (gI ?_)
    repeat' (first | ((first | refine C_r ?_ | refine O_r ?_); (conv => whnf); first | (refine ⟨fun hb => ?_, fun hb => ?_⟩ <;> try exact no_way) | refine A_o ?_ | refine fR ?_) | fail)
    exact ⟨by rw [hr2]; rfl, rfl⟩
  | cons x rest ih =>
    intro done j n g1 hj hn hr
    have hlen : s.data.toList.length = done.length + (rest.length + 1) := by rw [g1]; simp
    have hxj : s.data.toList[((j : Int)).toNat]? = some x := by rw [g1]; simp [hj]
    have hxj2 : s.data.toList[j]? = some x := hxj
    have q : ((j : Int) == (s.size : Int)) = false := by rw [beq_eq_false_iff_ne]; omega
    have e7 : IntKind.i64.wrap ((j : Int) + 1) = ((j + 1 : Nat) : Int) := by rw [wrap_ok (by omega) (by omega)]; omega
    rw [runF] at hr
    cases a1 : (x.toNat == 34) with
    | true =>
      have a1' : (!((x.toNat : Int) == 34)) = false := by rw [Bool.not_eq_false', beq_iff_eq]; rw [beq_iff_eq] at a1; omega
      have a2' : ((x.toNat : Int) == 10) = false := by rw [beq_eq_false_iff_ne]; rw [beq_iff_eq] at a1; omega
      have hr2 : fb = .tup [.agg [.d (.sc (.int .i64 4)), .d (.sc (.string (s.extract (i + 1) j))), .d (.sc (.int .i64 0)), .d (.sc (.complex .f64 0 0))], .one (.d (.sc (.int .i64 ((j + 1 : Nat) : Int)))), .one (.d (.sc (.bool true)))] := by
        rw [hr, show notQ x = false from by unfold notQ; rw [a1]; rfl, if_neg (by decide), show ((n : Int)).toNat = n from by omega, ← hn]
        unfold txtG
        rw [hxj2]
        simp only [a1, cond_true, oneV]
        rw [show (i : Int) + ((j + 1 - i : Nat) : Int) = ((j + 1 : Nat) : Int) from by omega]
      have e2 : (IntKind.i64.wrap ((i : Int) + 1)).toNat = i + 1 := by rw [e1]; omega
      have g2 : 0 ≤ IntKind.i64.wrap ((i : Int) + 1) ∧ IntKind.i64.wrap ((i : Int) + 1) ≤ (j : Int) := by rw [e1]; omega
      clear hr
      refine wR (gI ?_)
      repeat' (first | ((first | refine C_r ?_ | refine O_r ?_); (conv => whnf); first | (refine ⟨fun hb => ?_, fun hb => ?_⟩ <;> try exact no_way) | refine A_o ?_ | refine B_o ?_ | refine fR ?_) | refine Xs_l ?_ | refine Kz_l ?_ | fail)
      exact ⟨by rw [hr2, e7, ← e2]; rfl, rfl⟩
    | false =>
      have a1' : (!((x.toNat : Int) == 34)) = true := by rw [Bool.not_eq_true', beq_eq_false_iff_ne]; rw [beq_eq_false_iff_ne] at a1; omega
      cases a2 : (x.toNat == 10) with
      | true =>
        have a2' : (!((x.toNat : Int) == 10)) = false := by rw [Bool.not_eq_false', beq_iff_eq]; rw [beq_iff_eq] at a2; omega
        have a3' : ((x.toNat : Int) == 10) = true := by rw [beq_iff_eq]; rw [beq_iff_eq] at a2; omega
        have hr2 : fb = oneV i none := by
          rw [hr, show notQ x = false from by unfold notQ; rw [a1, a2]; rfl, if_neg (by decide), show ((n : Int)).toNat = n from by omega, ← hn]
          unfold txtG
          rw [hxj2]
          simp only [a1, cond_false]
        clear hr
        refine wR (gI ?_)
        repeat' (first | ((first | refine C_r ?_ | refine O_r ?_); (conv => whnf); first | (refine ⟨fun hb => ?_, fun hb => ?_⟩ <;> try exact no_way) | refine A_o ?_ | refine B_o ?_ | refine fR ?_) | refine Xs_l ?_ | fail)
        exact ⟨by rw [hr2]; rfl, rfl⟩
      | false =>
        have a2' : (!((x.toNat : Int) == 10)) = true := by rw [Bool.not_eq_true', beq_eq_false_iff_ne]; rw [beq_eq_false_iff_ne] at a2; omega
        rw [show notQ x = true from by unfold notQ; rw [a1, a2]; rfl, if_pos rfl] at hr
        refine wR (gI ?_)
        repeat' (first | ((first | refine C_r ?_ | refine O_r ?_); (conv => whnf); first | (refine ⟨fun hb => ?_, fun hb => ?_⟩ <;> try exact no_way) | refine B_o ?_ | refine R_o ?_) | refine Xs_l ?_ | fail)
        rw [e7]
        refine rE (ih (done ++ [x]) (j + 1) (n + 1) (by rw [g1]; simp) (by simp [hj]) (by omega) hr)
end Go.Proofs.YtcmhpjnafkpofaaDoor
