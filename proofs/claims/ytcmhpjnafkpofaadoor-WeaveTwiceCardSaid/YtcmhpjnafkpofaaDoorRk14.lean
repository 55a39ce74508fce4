/- The document's reader of tokens: the token at a place, in one. -/
import Derived.Test.YtcmhpjnafkpofaaDoorRk11
import Derived.Test.YtcmhpjnafkpofaaDoorRk13
import Derived.Test.YtcmhpjnafkpofaaDoorRk3
set_option linter.unusedVariables false
set_option linter.unusedSimpArgs false
namespace Go.Proofs.YtcmhpjnafkpofaaDoor
open Go Go.Am Go.Proofs
set_option maxRecDepth 10000
set_option maxHeartbeats 4000000
set_option linter.unusedVariables false
set_option linter.unusedSimpArgs false
theorem oneR [GVals] (s : ByteArray) (i : Nat) (b : UInt8) (hs : s.size < 2 ^ 40) (h : s.data.toList[i]? = some b) : Comp Tryd.prog 36 [str s, int .i64 i] (oneV i (tokB (sfx s i) b)) := by
  have hx : s.data.toList[((i : Int)).toNat]? = some b := h
  have hi : i < s.size := (List.getElem?_eq_some_iff.1 h).1
  unfold tokB
  cases k1 : letterF b with
  | true => simp only [cond_true]; exact oneW s i b hs h k1
  | false =>
  cases k2 : digitF b with
  | true => simp only [cond_true, cond_false]; exact oneD s i b hs h k1 k2
  | false =>
  have c1 := refLetR b
  have c2 := refDigR b
  rw [k1] at c1
  rw [k2] at c2
  simp only [cond_false]
  cases k3 : (b.toNat == 34) with
  | true =>
    have k3' : ((b.toNat : Int) == 34) = true := by rw [beq_iff_eq] at k3 ⊢; omega
    simp only [cond_true]
    rw [← txt_eq]
    exact oneT s i b hs h hx c1 c2 k3'
  | false =>
  have k3' : ((b.toNat : Int) == 34) = false := by rw [beq_eq_false_iff_ne] at k3 ⊢; omega
  simp only [cond_false]
  cases k4 : (b.toNat == 35) with
  | true =>
    have k4' : ((b.toNat : Int) == 35) = true := by rw [beq_iff_eq] at k4 ⊢; omega
    have hb35 : b = 35 := by
      rw [beq_iff_eq] at k4
      exact UInt8.toNat_inj.1 k4
    simp only [cond_true]
    rw [← hash_eq s i (by rw [← hb35]; exact h)]
    exact oneH s i b hs hi hx c1 c2 k3' k4'
  | false =>
  have k4' : ((b.toNat : Int) == 35) = false := by rw [beq_eq_false_iff_ne] at k4 ⊢; omega
  simp only [cond_false]
  have c5 := refSignR s i b hs h
  have hsn := sign_bound (sfx s i) (by rw [sfx_size]; omega)
  rw [sfx_size] at hsn
  rw [sfx_extract]
  generalize signF (sfx s i) = n at *
  cases k5 : decide (n > 0) with
  | true =>
    rw [decide_eq_true_eq] at k5
    have q : (n == 0) = false := by rw [beq_eq_false_iff_ne]; omega
    have e1 : IntKind.i64.wrap ((i : Int) + n) = (i : Int) + n := wrap_ok (by omega) (by omega)
    have := oneSYes s i b n hx c1 c2 k3' k4' c5 q (by omega) (by omega) (by omega)
    rw [e1] at this
    have e2 : ((i : Int) + n).toNat = i + n.toNat := by omega
    rw [e2] at this
    exact this
  | false =>
    rw [decide_eq_false_iff_not] at k5
    have : n = 0 := by omega
    subst this
    exact oneSNo s i b hx c1 c2 k3' k4' c5
theorem sfx_bal (s : ByteArray) (i : Nat) : sfx s i = bal (s.data.toList.drop i) := ba_ext (by rw [sfx_list, bal_list])
theorem oneLR [GVals] (s : ByteArray) (i : Nat) (b : UInt8) (r : List UInt8) (hs : s.size < 2 ^ 40) (h : s.data.toList.drop i = b :: r) : Comp Tryd.prog 36 [str s, int .i64 i] (oneV i (outT (tokC b r))) := by
  have h0 : s.data.toList[i]? = some b := by
    have : (s.data.toList.drop i)[0]? = some b := by rw [h]; rfl
    rwa [List.getElem?_drop, Nat.add_zero] at this
  have := oneR s i b hs h0
  rw [sfx_bal, h, tok_bal] at this
  exact this
theorem skipLR [GVals] (s : ByteArray) (i : Nat) (b : UInt8) (r : List UInt8) (hs : s.size < 2 ^ 40) (h : s.data.toList.drop i = b :: r) : Comp Tryd.prog 35 [str s, int .i64 i] (skipV i (outS2 (blkL (b :: r)))) := by
  have h0 : s.data.toList[i]? = some b := by
    have : (s.data.toList.drop i)[0]? = some b := by rw [h]; rfl
    rwa [List.getElem?_drop, Nat.add_zero] at this
  have := skipR s i b hs h0
  rw [sfx_bal, h, skip_bal] at this
  exact this
end Go.Proofs.YtcmhpjnafkpofaaDoor
