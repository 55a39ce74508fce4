/- The document's reader of tokens: what begins with #. -/
import Derived.Test.YtcmhpjnafkpofaaDoorRk10
set_option linter.unusedVariables false
set_option linter.unusedSimpArgs false
namespace Go.Proofs.YtcmhpjnafkpofaaDoor
open Go Go.Am Go.Proofs
set_option maxRecDepth 10000
set_option maxHeartbeats 4000000
set_option linter.unusedVariables false
set_option linter.unusedSimpArgs false
theorem hash_eq (s : ByteArray) (i : Nat) (h : s.data.toList[i]? = some 35) : hshF s i [inclS, defnS] = hashF (sfx s i) := by
  have a1 := stand_eq s i inclS 35 [105, 110, 99, 108, 117, 100, 101] h (by kernel_rfl) (by decide +kernel)
  have a2 := stand_eq s i defnS 35 [100, 101, 102, 105, 110, 101] h (by kernel_rfl) (by decide +kernel)
  unfold hshF hshF hshF hashF
  rw [a1, a2]
  have hn : 0 ≤ hsN (sfx s i) ∧ hsN (sfx s i) ≤ 1 + (sfx s i).size := by
    have h1 := run_bound innerF ((sfx s i).extract 1 (sfx s i).size).data.toList 0
    have h2 : ((sfx s i).extract 1 (sfx s i).size).data.toList.length = (sfx s i).size - 1 := by
      show ((sfx s i).extract 1 (sfx s i).size).size = _
      simp [ByteArray.size_extract]
    unfold hsN
    omega
  have hsz1 : 1 ≤ (sfx s i).size := by
    have := (List.getElem?_eq_some_iff.1 h).1
    rw [sfx_size]
    have e : s.size = s.data.toList.length := rfl
    omega
  have hx : ((sfx s i).extract 0 (hsN (sfx s i)).toNat).size = (hsN (sfx s i)).toNat := by
    have h1 := run_bound innerF ((sfx s i).extract 1 (sfx s i).size).data.toList 0
    have h2 : ((sfx s i).extract 1 (sfx s i).size).data.toList.length = (sfx s i).size - 1 := by
      show ((sfx s i).extract 1 (sfx s i).size).size = _
      simp [ByteArray.size_extract]
    rw [ByteArray.size_extract]
    unfold hsN
    omega
  have h0 := hn.1
  generalize hsN (sfx s i) = m at *
  generalize (sfx s i).extract 0 m.toNat = x at *
  cases k1 : (x == inclS) with
  | true =>
    rw [ba_beq, decide_eq_true_eq] at k1
    subst k1
    simp only [cond_true, Bool.true_or]
    rw [show m = ((inclS.size : Nat) : Int) from by omega]
  | false =>
    simp only [cond_false, Bool.false_or]
    cases k2 : (x == defnS) with
    | true =>
      rw [ba_beq, decide_eq_true_eq] at k2
      subst k2
      simp only [cond_true]
      rw [show m = ((defnS.size : Nat) : Int) from by omega]
    | false => rfl
end Go.Proofs.YtcmhpjnafkpofaaDoor
