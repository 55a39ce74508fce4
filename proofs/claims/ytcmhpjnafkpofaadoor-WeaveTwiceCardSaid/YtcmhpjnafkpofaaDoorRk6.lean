/- The document's reader of tokens: where a number ends. -/
import Derived.Test.YtcmhpjnafkpofaaDoorRk5
set_option linter.unusedVariables false
set_option linter.unusedSimpArgs false
namespace Go.Proofs.YtcmhpjnafkpofaaDoor
open Go Go.Am Go.Proofs
attribute [local irreducible] W WL DL WO RoundEnd
set_option maxRecDepth 10000
set_option maxHeartbeats 4000000
set_option linter.unusedVariables false
set_option linter.unusedSimpArgs false
theorem lit_beq (b c : UInt8) (k : Int) (hk : (c.toNat : Int) = k) : ((b.toNat : Int) == k) = (c == b) := by
  rw [← hk, Bool.eq_iff_iff, beq_iff_eq, beq_iff_eq]
  constructor
  · intro h; exact (UInt8.toNat_inj.1 (by omega))
  · intro h; rw [h]
def numOV (i n : Nat) : Option Int → V
  | some c => .tup [.one (.d (.sc (.int .u64 (n : Int)))), .one (.d (.sc (.int .i64 ((i : Int) + c)))), .one (.d (.sc (.bool true)))]
  | none => .tup [.one (.d (.sc (.int .u64 0))), .one (.d (.sc (.int .i64 0))), .one (.d (.sc (.bool false)))]
theorem numEV_map (i off : Nat) (o : Option (Nat × Nat)) : ∃ n : Nat, numEV (i + off) o = numOV i n (o.map fun x => ((off + x.2 : Nat) : Int)) := by
  cases o with
  | none => exact ⟨0, rfl⟩
  | some x =>
    obtain ⟨n, c⟩ := x
    refine ⟨n, ?_⟩
    simp only [numEV, numOV, Option.map_some]
    have : ((i + off + c : Nat) : Int) = (i : Int) + ((off + c : Nat) : Int) := by omega
    rw [this]
theorem drop_at {l : List UInt8} {i : Nat} {b : UInt8} (h : l[i]? = some b) : l.drop i = b :: l.drop (i + 1) := by
  obtain ⟨h1, h2⟩ := List.getElem?_eq_some_iff.1 h
  rw [List.drop_eq_getElem_cons h1, h2]
theorem refNumR [GVals] (s : ByteArray) (i : Nat) (b : UInt8) (hs : s.size < 2 ^ 40) (h : s.data.toList[i]? = some b) : ∃ n : Nat, Comp Tryd.prog 50 [str s, int .i64 i] (numOV i n (numN (sfx s i))) := by
  have hi := (List.getElem?_eq_some_iff.1 h).1
  have hsz : s.size = s.data.toList.length := rfl
  have hx : s.data.toList[((i : Int)).toNat]? = some b := h
  have e1 : IntKind.i64.wrap ((i : Int) + 1) = ((i + 1 : Nat) : Int) := by rw [wrap_ok (by omega) (by omega)]; omega
  have eh : hexS.data.toList = [48, 120] := rfl
  have no : preF (sfx s i) hexS = false → Comp Tryd.prog 50 [str s, int .i64 i] (numEV i (numE 10 (s.data.toList.drop i) 0 0)) → ∃ n : Nat, Comp Tryd.prog 50 [str s, int .i64 i] (numOV i n (numN (sfx s i))) := by
    intro hp hc
    obtain ⟨n, hn⟩ := numEV_map i 0 (numE 10 (s.data.toList.drop i) 0 0)
    refine ⟨n, ?_⟩
    have : numN (sfx s i) = (numE 10 (s.data.toList.drop i) 0 0).map fun x => ((0 + x.2 : Nat) : Int) := by
      unfold numN
      rw [hp, sfx_list]
      simp only [cond_false, Nat.zero_add]
    rw [this, ← hn]; exact hc
  cases hc : s.data.toList[i + 1]? with
  | none =>
    rw [List.getElem?_eq_none_iff] at hc
    have hp : preF (sfx s i) hexS = false := by
      rw [pre_eq, sfx_list, drop_at h, List.drop_eq_nil_of_le (by omega), eh]
      simp [List.isPrefixOf]
    have g0 : decide (IntKind.i64.wrap ((i : Int) + 1) < (s.size : Int)) = false := by rw [e1, decide_eq_false_iff_not]; omega
    exact no hp (num10EA s i hs (by omega) g0)
  | some c =>
    have hlt := (List.getElem?_eq_some_iff.1 hc).1
    have hp : preF (sfx s i) hexS = ((48 == b) && (120 == c)) := by
      rw [pre_eq, sfx_list, drop_at h, drop_at hc, eh]
      simp [List.isPrefixOf]
    have g0 : decide (IntKind.i64.wrap ((i : Int) + 1) < (s.size : Int)) = true := by rw [e1, decide_eq_true_eq]; omega
    have hx2 : s.data.toList[(IntKind.i64.wrap ((i : Int) + 1)).toNat]? = some c := by rw [e1]; exact hc
    have hi1 : 0 ≤ IntKind.i64.wrap ((i : Int) + 1) := by rw [e1]; omega
    have q1 := lit_beq b 48 48 rfl
    have q2 := lit_beq c 120 120 rfl
    cases k1 : ((48 : UInt8) == b) with
    | false =>
      rw [k1] at hp q1
      exact no hp (num10EB s i hs (by omega) g0 b hx q1)
    | true =>
      rw [k1] at hp q1
      cases k2 : ((120 : UInt8) == c) with
      | false =>
        rw [k2] at hp q2
        exact no hp (num10EC s i hs (by omega) g0 b c hx q1 hi1 hx2 q2)
      | true =>
        rw [k2] at hp q2
        obtain ⟨n, hn⟩ := numEV_map i 2 (numE 16 (s.data.toList.drop (i + 2)) 0 0)
        refine ⟨n, ?_⟩
        have : numN (sfx s i) = (numE 16 (s.data.toList.drop (i + 2)) 0 0).map fun x => ((2 + x.2 : Nat) : Int) := by
          unfold numN
          rw [show preF (sfx s i) hexS = true from hp, sfx_list, List.drop_drop]
          rfl
        rw [this, ← hn]
        exact num16E s i hs (by omega) b c hx q1 hi1 hx2 q2
end Go.Proofs.YtcmhpjnafkpofaaDoor
