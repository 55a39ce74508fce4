/- The document's reader of tokens: how a text begins, and signs. -/
import Derived.Test.YtcmhpjnafkpofaaDoorTk6
set_option linter.unusedVariables false
set_option linter.unusedSimpArgs false
namespace Go.Proofs.YtcmhpjnafkpofaaDoor
open Go Go.Am Go.Proofs
attribute [local irreducible] W WL DL WO RoundEnd
set_option maxRecDepth 10000
set_option maxHeartbeats 4000000
set_option linter.unusedVariables false
set_option linter.unusedSimpArgs false
theorem let_eq (b : UInt8) : isLet (b.toNat : Int) = letterF b := by
  unfold isLet letterF
  have e1 : decide ((b.toNat : Int) ≥ 97) = decide (b.toNat ≥ 97) := by rw [decide_eq_decide]; omega
  have e2 : decide ((b.toNat : Int) ≤ 122) = decide (b.toNat ≤ 122) := by rw [decide_eq_decide]; omega
  have e3 : decide ((b.toNat : Int) ≥ 65) = decide (b.toNat ≥ 65) := by rw [decide_eq_decide]; omega
  have e4 : decide ((b.toNat : Int) ≤ 90) = decide (b.toNat ≤ 90) := by rw [decide_eq_decide]; omega
  have e5 : ((b.toNat : Int) == 95) = (b.toNat == 95) := by rw [Bool.eq_iff_iff, beq_iff_eq, beq_iff_eq]; omega
  rw [e1, e2, e3, e4, e5]
  cases decide (b.toNat ≥ 97) <;> cases decide (b.toNat ≤ 122) <;> cases decide (b.toNat ≥ 65) <;> cases decide (b.toNat ≤ 90) <;> cases (b.toNat == 95) <;> rfl
theorem dig_eq (b : UInt8) : isDig (b.toNat : Int) = digitF b := by
  unfold isDig digitF
  have e1 : decide ((b.toNat : Int) ≥ 48) = decide (b.toNat ≥ 48) := by rw [decide_eq_decide]; omega
  have e2 : decide ((b.toNat : Int) ≤ 57) = decide (b.toNat ≤ 57) := by rw [decide_eq_decide]; omega
  rw [e1, e2]
theorem refLetR [GVals] (b : UInt8) : Comp Tryd.prog 48 [int .u8 b.toNat] (bool (letterF b)) := by rw [← let_eq]; exact letR _
theorem refDigR [GVals] (b : UInt8) : Comp Tryd.prog 49 [int .u8 b.toNat] (bool (digitF b)) := by rw [← dig_eq]; exact digR _
theorem hex_nat : ∀ n : Nat, n < 256 → ∀ d : Bool, d = (decide (n ≥ 48) && decide (n ≤ 57)) → hexI (n : Int) = (let v : Nat := bif d then n - 48 else bif decide (n ≥ 97) && decide (n ≤ 102) then n - 97 + 10 else bif decide (n ≥ 65) && decide (n ≤ 70) then n - 65 + 10 else 16; bif decide (v < 16) then (v : Int) else -1) := by
  intro n h d hd
  subst hd
  revert n
  decide +kernel
theorem hex_eq (b : UInt8) : hexI (b.toNat : Int) = bif decide (valF b < 16) then (valF b : Int) else -1 := hex_nat b.toNat b.toNat_lt _ rfl
theorem refHexR [GVals] (b : UInt8) : Comp Tryd.prog 62 [int .u8 b.toNat] (int .i64 (bif decide (valF b < 16) then (valF b : Int) else -1)) := by
  have := b.toNat_lt
  rw [← hex_eq]; exact hexR _ (by omega) (by omega)
/-- from a place on -/
def sfx (s : ByteArray) (i : Nat) : ByteArray := s.extract i s.size
theorem sfx_size (s : ByteArray) (i : Nat) : (sfx s i).size = s.size - i := by simp [sfx, ByteArray.size_extract]
theorem sfx_list (s : ByteArray) (i : Nat) : (sfx s i).data.toList = s.data.toList.drop i := ext_list s i
theorem ba_ext {a b : ByteArray} (h : a.data.toList = b.data.toList) : a = b := by
  obtain ⟨⟨a⟩⟩ := a; obtain ⟨⟨b⟩⟩ := b
  simp at h; rw [h]
theorem sfx_extract (s : ByteArray) (i a b : Nat) : (sfx s i).extract a b = s.extract (i + a) (i + b) := by
  apply ba_ext
  rw [extract_list, extract_list, sfx_list]
  rw [List.drop_take, List.drop_drop, List.drop_take]
  congr 1
  omega
theorem beginsR [GVals] (s t : ByteArray) (i : Nat) (hi : i ≤ s.size) (hs : s.size < 2 ^ 40) (ht : t.size < 2 ^ 40) : Comp Tryd.prog 47 [str s, int .i64 i, str t] (bool (preF (sfx s i) t)) := by
  have e1 : IntKind.i64.wrap ((i : Int) + (t.size : Int)) = ((i + t.size : Nat) : Int) := by rw [wrap_ok (by omega) (by omega)]; omega
  unfold preF
  rw [sfx_size, sfx_extract]
  cases h1 : decide (((s.size - i : Nat) : Int) ≥ (t.size : Int)) with
  | true =>
    rw [decide_eq_true_eq] at h1
    have g1 : decide (IntKind.i64.wrap ((i : Int) + (t.size : Int)) ≤ (s.size : Int)) = true := by rw [e1, decide_eq_true_eq]; omega
    have g2 : 0 ≤ IntKind.i64.wrap ((i : Int) + (t.size : Int)) ∧ (i : Int) ≤ IntKind.i64.wrap ((i : Int) + (t.size : Int)) ∧ IntKind.i64.wrap ((i : Int) + (t.size : Int)) ≤ (s.size : Int) := by rw [e1]; omega
    have e2 : (IntKind.i64.wrap ((i : Int) + (t.size : Int))).toNat = i + t.size := by rw [e1]; omega
    refine Spec.body (C := cx [] 25) fits (fn := Tryd.f47) Tryd.func47 rfl (by decide) (by decide) (gI ?_)
    repeat' (first | ((first | refine C_r ?_ | refine O_r ?_); (conv => whnf); first | (refine ⟨fun hb => ?_, fun hb => ?_⟩ <;> try exact no_way) | refine B_o ?_ | refine fR ?_) | refine Kz_l ?_ | fail)
    all_goals exact ⟨by rw [← e2]; first | rfl | (rw [show (s.extract (i + 0) (IntKind.i64.wrap ((i : Int) + (t.size : Int))).toNat == t) = _ from hb]; rfl), rfl⟩
  | false =>
    rw [decide_eq_false_iff_not] at h1
    have g1 : decide (IntKind.i64.wrap ((i : Int) + (t.size : Int)) ≤ (s.size : Int)) = false := by rw [e1, decide_eq_false_iff_not]; omega
    refine Spec.body (C := cx [] 25) fits (fn := Tryd.f47) Tryd.func47 rfl (by decide) (by decide) (gI ?_)
    repeat' (first | ((first | refine C_r ?_ | refine O_r ?_); (conv => whnf); first | (refine ⟨fun hb => ?_, fun hb => ?_⟩ <;> try exact no_way) | refine fR ?_) | fail)
    all_goals exact ⟨rfl, rfl⟩
end Go.Proofs.YtcmhpjnafkpofaaDoor
