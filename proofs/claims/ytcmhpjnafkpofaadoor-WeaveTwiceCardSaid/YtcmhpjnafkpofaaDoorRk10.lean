/- The document's reader of tokens: the token at a place is the program's. -/
import Derived.Test.YtcmhpjnafkpofaaDoorRk9
import Derived.Test.YtcmhpjnafkpofaaDoorRk12
set_option linter.unusedVariables false
set_option linter.unusedSimpArgs false
namespace Go.Proofs.YtcmhpjnafkpofaaDoor
open Go Go.Am Go.Proofs
attribute [local irreducible] W WL DL WO RoundEnd
set_option maxRecDepth 10000
set_option maxHeartbeats 4000000
set_option linter.unusedVariables false
set_option linter.unusedSimpArgs false
theorem txt_eq1 (s : ByteArray) (i : Nat) : txN (sfx s i) = runF notQ (s.data.toList.drop (i + 1)) 0 := by
  unfold txN
  rw [ext_list, sfx_list, List.drop_drop]
theorem txt_eq2 (s : ByteArray) (i : Nat) (n : Int) (h0 : 0 ≤ n) : txtG s i (i + 1 + n.toNat) = textG (sfx s i) n := by
  have e2 : (sfx s i).data.toList[(n + 1).toNat]? = s.data.toList[i + 1 + n.toNat]? := by
    rw [sfx_list, List.getElem?_drop, show i + (n + 1).toNat = i + 1 + n.toNat from by omega]
  have e3 : i + (n + 1).toNat = i + 1 + n.toNat := by omega
  have e4 : ((i + 1 + n.toNat + 1 - i : Nat) : Int) = n + 2 := by omega
  have e5 : (sfx s i).extract 1 (n + 1).toNat = s.extract (i + 1) (i + 1 + n.toNat) := by rw [sfx_extract, e3]
  unfold txtG textG
  rw [e5]
  cases hc : s.data.toList[i + 1 + n.toNat]? with
  | none =>
    rw [hc] at e2
    rw [e2]
  | some c =>
    rw [hc] at e2
    rw [e2]
    simp only
    rw [e4]
theorem txt_eq (s : ByteArray) (i : Nat) : txtG s i (i + 1 + (runF notQ (s.data.toList.drop (i + 1)) 0).toNat) = textF (sfx s i) := by
  unfold textF
  rw [txt_eq1]
  exact txt_eq2 s i _ (run_bound notQ _ 0).1
theorem stand_list (p : UInt8 → Bool) : ∀ (t R : List UInt8), (∀ a ∈ t, p a = true) → (t.isPrefixOf R && (match R[t.length]? with
    | some c => !p c
    | none => true)) = decide (R.takeWhile p = t)
  | [], R, _ => by
    cases R with
    | nil => rfl
    | cons c r =>
      simp only [List.isPrefixOf, Bool.true_and, List.length_nil, List.getElem?_cons_zero, List.takeWhile_cons]
      cases p c <;> simp
  | a :: t, R, h => by
    cases R with
    | nil => simp [List.isPrefixOf]
    | cons c r =>
      have ih := stand_list p t r fun x hx => h x (by simp [hx])
      have ha := h a (by simp)
      simp only [List.isPrefixOf, List.length_cons, List.getElem?_cons_succ, List.takeWhile_cons]
      by_cases e : a = c
      · subst e
        rw [ha, beq_self_eq_true, Bool.true_and, ih]
        simp
      · have : (a == c) = false := by simpa using e
        rw [this]
        simp only [Bool.false_and]
        symm
        rw [decide_eq_false_iff_not]
        cases p c with
        | true => simp only [if_true, List.cons.injEq, not_and]; intro h; exact absurd h.symm e
        | false => simp
theorem stand_eq (s : ByteArray) (i : Nat) (t : ByteArray) (b : UInt8) (t' : List UInt8) (h : s.data.toList[i]? = some b) (ht : t.data.toList = b :: t') (hin : ∀ a ∈ t', innerF a = true) : standF s i t = ((sfx s i).extract 0 (hsN (sfx s i)).toNat == t) := by
  have e1 : (sfx s i).data.toList = b :: s.data.toList.drop (i + 1) := by rw [sfx_list, drop_at h]
  have e2 : ((sfx s i).extract 1 (sfx s i).size).data.toList = s.data.toList.drop (i + 1) := by rw [ext_list, e1]; rfl
  have e3 : hsN (sfx s i) = 1 + ((s.data.toList.drop (i + 1)).takeWhile innerF).length := by
    unfold hsN; rw [e2, run_take]; omega
  have e4 : ((sfx s i).extract 0 (hsN (sfx s i)).toNat).data.toList = b :: (s.data.toList.drop (i + 1)).takeWhile innerF := by
    rw [extract_list, List.drop_zero, e1, e3]
    rw [show ((1 : Int) + (((s.data.toList.drop (i + 1)).takeWhile innerF).length : Nat)).toNat = ((s.data.toList.drop (i + 1)).takeWhile innerF).length + 1 from by omega, List.take_succ_cons]
    congr 1
    have h := (List.takeWhile_prefix (l := s.data.toList.drop (i + 1)) innerF)
    rw [List.prefix_iff_eq_take] at h
    exact h.symm
  have e5 : t.size = t'.length + 1 := by
    show t.data.toList.length = _
    rw [ht]; rfl
  have e6 : s.data.toList[i + t.size]? = (s.data.toList.drop (i + 1))[t'.length]? := by
    rw [List.getElem?_drop, e5, show i + (t'.length + 1) = i + 1 + t'.length from by omega]
  have x1 : (sfx s i).extract 0 (hsN (sfx s i)).toNat = bal (b :: (s.data.toList.drop (i + 1)).takeWhile innerF) := ba_ext (by rw [e4, bal_list])
  have x2 : (bal (b :: (s.data.toList.drop (i + 1)).takeWhile innerF) == t) = decide ((s.data.toList.drop (i + 1)).takeWhile innerF = t') := by
    have x3 : t = bal (b :: t') := ba_ext (by rw [ht, bal_list])
    rw [x3, bal_beq, Bool.eq_iff_iff, beq_iff_eq, decide_eq_true_eq, List.cons.injEq]
    simp
  rw [x1, x2, ← stand_list innerF t' _ hin]
  clear x1 x2 e3 e4
  unfold standF
  rw [pre_eq, e1, ht, e6]
  simp only [List.isPrefixOf, beq_self_eq_true, Bool.true_and]
  generalize (List.drop (i + 1) s.data.toList)[t'.length]? = o
  cases o <;> rfl
end Go.Proofs.YtcmhpjnafkpofaaDoor
