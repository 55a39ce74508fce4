/- The document's reader of tokens: the token at a place: what begins with #. -/
import Derived.Test.YtcmhpjnafkpofaaDoorRk8
set_option linter.unusedVariables false
set_option linter.unusedSimpArgs false
namespace Go.Proofs.YtcmhpjnafkpofaaDoor
open Go Go.Am Go.Proofs
attribute [local irreducible] W WL DL WO RoundEnd
set_option maxRecDepth 10000
set_option maxHeartbeats 4000000
set_option linter.unusedVariables false
set_option linter.unusedSimpArgs false
/-- does a text stand at a place, and no word go on behind it? -/
def standF (s : ByteArray) (i : Nat) (t : ByteArray) : Bool :=
  preF (sfx s i) t && (match s.data.toList[i + t.size]? with
    | some c => !innerF c
    | none => true)
def hshF (s : ByteArray) (i : Nat) : List ByteArray → Option (Int × Int × ByteArray)
  | [] => none
  | t :: r => bif standF s i t then some (5, (t.size : Int), t) else hshF s i r
theorem oneH [GVals] (s : ByteArray) (i : Nat) (b : UInt8) (hs : s.size < 2 ^ 40) (hi : i < s.size) (hx : s.data.toList[((i : Int)).toNat]? = some b) (c1 : Comp Tryd.prog 48 [int .u8 b.toNat] (bool false)) (c2 : Comp Tryd.prog 49 [int .u8 b.toNat] (bool false)) (k3 : ((b.toNat : Int) == 34) = false) (k4 : ((b.toNat : Int) == 35) = true) : Comp Tryd.prog 36 [str s, int .i64 i] (oneV i (hshF s i [inclS, defnS])) := by
  have hsz : s.size = s.data.toList.length := rfl
  generalize hfb : oneV i (hshF s i [inclS, defnS]) = fb
  refine Spec.body (C := cx [] 172) fits (fn := Tryd.f36) Tryd.func36 rfl (by decide) (by decide) (gI ?_)
  repeat' (first | ((first | refine C_r ?_ | refine O_r ?_); (conv => whnf); first | (refine ⟨fun hb => ?_, fun hb => ?_⟩ <;> try exact no_way) | refine A_o ?_ | refine B_o ?_) | refine C_l (c1) ?_ | refine C_l (c2) ?_ | refine Xs_l ?_ | fail)
  refine wLoop [0, 1, 4, 12, 13] 1 3 ?_
  refine (fun key => key [inclS, defnS] [] _ rfl rfl (by intro t ht; rcases List.mem_cons.1 ht with rfl | ht; decide; rcases List.mem_cons.1 ht with rfl | ht; decide; cases ht) hfb.symm :
    (∀ (rest done : List ByteArray) (j : Int), [inclS, defnS] = done ++ rest → j = done.length → (∀ t ∈ rest, t.size < 100) → fb = oneV i (hshF s i rest) →
    WR2 _ _ _ _ _ (rest.length + 1) [(0, str s), (1, int .i64 i), (4, .one (.ptr 0 0)), (12, lst strow9 [inclS, defnS]), (13, int .i64 j)] [.var [.d (.sc (.int .i64 0)), .d (.sc (.string ⟨#[]⟩)), .d (.sc (.int .i64 0)), .d (.sc (.complex .f64 0 0))]]) → _) ?_
  clear hfb c1 c2 hx k3 k4
  have hl2 : [inclS, defnS].length = 2 := rfl
  generalize [inclS, defnS] = l at *
  intro rest
  induction rest with
  | nil =>
    intro done j g1 hj ht hr
    have hlen : l.length = done.length := by rw [g1]; simp
    have q : decide (j < 2) = false := by rw [decide_eq_false_iff_not]; omega
    refine wR (gI ?_)
    repeat' (first | ((first | refine C_r ?_ | refine O_r ?_); (conv => whnf); first | (refine ⟨fun hb => ?_, fun hb => ?_⟩ <;> try exact no_way) | refine A_o ?_ | refine fR ?_) | fail)
    exact ⟨by rw [hr]; rfl, rfl⟩
  | cons x rest ih =>
    intro done j g1 hj ht hr
    have hlen : l.length = done.length + (rest.length + 1) := by rw [g1]; simp
    have q : decide (j < 2) = true := by rw [decide_eq_true_eq]; omega
    have hxz := ht x (by simp)
    have ht' : ∀ t ∈ rest, t.size < 100 := fun t h => ht t (by simp [h])
    have c3 := beginsR s x i (by omega) hs (by omega)
    have e1 : IntKind.i64.wrap ((i : Int) + (x.size : Int)) = ((i + x.size : Nat) : Int) := by rw [wrap_ok (by omega) (by omega)]; omega
    have next : ∀ v : Bool, standF s i x = v → v = false → fb = oneV i (hshF s i rest) := by
      intro v h1 h2
      rw [hr, hshF, h1, h2]; rfl
    have found : standF s i x = true → fb = .tup [.agg [.d (.sc (.int .i64 5)), .d (.sc (.string x)), .d (.sc (.int .i64 0)), .d (.sc (.complex .f64 0 0))], .one (.d (.sc (.int .i64 (IntKind.i64.wrap ((i : Int) + (x.size : Int)))))), .one (.d (.sc (.bool true)))] := by
      intro h1
      rw [hr, hshF, h1, e1]
      show oneV i (some (5, (x.size : Int), x)) = _
      rw [show ((i + x.size : Nat) : Int) = (i : Int) + (x.size : Int) from by omega]; rfl
    have hg : j + 1 = ((done ++ [x]).length : Nat) := by simp [hj]
    have e7 : IntKind.i64.wrap (j + 1) = j + 1 := wrap_ok (by omega) (by omega)
    have g1' : l = (done ++ [x]) ++ rest := by rw [g1]; simp
    unfold standF at next found
    cases hp : preF (sfx s i) x with
    | false =>
      rw [hp] at c3
      have nx := next _ rfl (by rw [hp]; rfl)
      clear next found hr
      refine wR (gI ?_)
      repeat' (first | ((first | refine C_r ?_ | refine O_r ?_); (conv => whnf); first | (refine ⟨fun hb => ?_, fun hb => ?_⟩ <;> try exact no_way) | refine B_o ?_ | refine R_o ?_) | refine C_l (c3) ?_ | refine X_l ?_ | fail)
      rw [e7]
      exact rE (ih (done ++ [x]) _ g1' hg ht' nx)
    | true =>
      rw [hp] at c3
      have hle := pre_size hp
      rw [sfx_size] at hle
      cases hc : s.data.toList[i + x.size]? with
      | none =>
        rw [List.getElem?_eq_none_iff] at hc
        have q2 : (IntKind.i64.wrap ((i : Int) + (x.size : Int)) == (s.size : Int)) = true := by rw [e1, beq_iff_eq]; omega
        have fd := found (by rw [hp, List.getElem?_eq_none hc]; rfl)
        clear next found hr
        refine wR (gI ?_)
        repeat' (first | ((first | refine C_r ?_ | refine O_r ?_); (conv => whnf); first | (refine ⟨fun hb => ?_, fun hb => ?_⟩ <;> try exact no_way) | refine B_o ?_ | refine fR ?_) | refine C_l (c3) ?_ | refine X_l ?_ | fail)
        exact ⟨by rw [fd], rfl⟩
      | some c =>
        have hlt := (List.getElem?_eq_some_iff.1 hc).1
        have q2 : (IntKind.i64.wrap ((i : Int) + (x.size : Int)) == (s.size : Int)) = false := by rw [e1, beq_eq_false_iff_ne]; omega
        have q3 : s.data.toList[(IntKind.i64.wrap ((i : Int) + (x.size : Int))).toNat]? = some c := by rw [e1]; exact hc
        have q4 : 0 ≤ IntKind.i64.wrap ((i : Int) + (x.size : Int)) := by rw [e1]; omega
        have c4 := refLetR c
        have c5 := refDigR c
        rw [hp, hc] at next found
        simp only [Bool.true_and, show innerF c = (letterF c || digitF c) from rfl] at next found
        generalize letterF c = l1 at *
        generalize digitF c = l2 at *
        clear hr
        refine wR (gI ?_)
        repeat' (first | ((first | refine C_r ?_ | refine O_r ?_); (conv => whnf); first | (refine ⟨fun hb => ?_, fun hb => ?_⟩ <;> try exact no_way) | refine B_o ?_ | refine R_o ?_ | refine fR ?_) | refine C_l (c3) ?_ | refine B_l (c4) (fun m1 => ?_) fun m1 => ?_ | refine B_l (c5) (fun m2 => ?_) fun m2 => ?_ | refine X_l ?_ | refine Xs_l ?_ | fail)
        · have nx := next _ rfl (by rw [m1]; rfl)
          rw [e7]
          exact rE (ih (done ++ [x]) _ g1' hg ht' nx)
        · have nx := next _ rfl (by rw [m1, m2]; rfl)
          rw [e7]
          exact rE (ih (done ++ [x]) _ g1' hg ht' nx)
        · have fd := found (by rw [m1, m2]; rfl)
          exact ⟨by rw [fd], rfl⟩
end Go.Proofs.YtcmhpjnafkpofaaDoor
