/- The document's reader of tokens: a number, as the program reads it. -/
import Derived.Test.YtcmhpjnafkpofaaDoorRk4
set_option linter.unusedVariables false
set_option linter.unusedSimpArgs false
namespace Go.Proofs.YtcmhpjnafkpofaaDoor
open Go Go.Am Go.Proofs
attribute [local irreducible] W WL DL WO RoundEnd
set_option maxRecDepth 10000
set_option maxHeartbeats 4000000
set_option linter.unusedVariables false
set_option linter.unusedSimpArgs false
theorem run_take (p : UInt8 → Bool) : ∀ (l : List UInt8) (n : Int), runF p l n = n + (l.takeWhile p).length
  | [], n => by simp [runF]
  | x :: r, n => by
    rw [runF, List.takeWhile_cons]
    cases h : p x with
    | true => simp only [if_true]; rw [run_take p r (n + 1)]; simp only [List.length_cons]; omega
    | false => simp
theorem take_run (p : UInt8 → Bool) (l : List UInt8) : l.take (runF p l 0).toNat = l.takeWhile p := by
  rw [run_take]
  have h : (l.takeWhile p) <+: l := List.takeWhile_prefix p
  rw [List.prefix_iff_eq_take] at h
  rw [show ((0 : Int) + ((l.takeWhile p).length : Nat)).toNat = (l.takeWhile p).length from by omega]
  exact h.symm
theorem numE_eq (base : Nat) (hb : base ≤ 16) : ∀ (l : List UInt8) (n c : Nat), numE base l n c = match numF base (l.takeWhile innerF) n with
    | none => none
    | some v => if c + (l.takeWhile innerF).length = 0 then none else some (v, c + (l.takeWhile innerF).length)
  | [], n, c => by
    show (bif c == 0 then none else some (n, c)) = (if c + 0 = 0 then none else some (n, c + 0))
    by_cases h : c = 0
    · subst h; rfl
    · have h2 : ¬ c + 0 = 0 := by omega
      rw [if_neg h2, show (c == 0) = false from by simpa using h]; rfl
  | b :: r, n, c => by
    rw [numE, List.takeWhile_cons]
    cases hi : innerF b with
    | true =>
      simp only [if_true, Bool.or_true, cond_true, numF, List.length_cons]
      cases k1 : decide (valF b < base) with
      | false => simp
      | true =>
        simp only [cond_true, Bool.true_and]
        cases k2 : decide (n * base + valF b < 18446744073709551616) with
        | false => simp
        | true =>
          simp only [cond_true]
          rw [numE_eq base hb r]
          cases numF base (r.takeWhile innerF) (n * base + valF b) with
          | none => rfl
          | some v => simp only [show c + 1 + (r.takeWhile innerF).length = c + ((r.takeWhile innerF).length + 1) from by omega]
    | false =>
      have k1 : decide (valF b < base) = false := by
        rw [decide_eq_false_iff_not]
        intro h
        have := val_lt_inner b (by omega)
        rw [hi] at this; cases this
      rw [k1]
      simp only [Bool.or_false, cond_false, Bool.false_eq_true, if_false, numF, List.length_nil, Nat.add_zero]
      by_cases h : c = 0
      · subst h; rfl
      · rw [if_neg h, show (c == 0) = false from by simpa using h]; rfl
theorem hex_pre (l : List UInt8) : hexS.data.toList.isPrefixOf (l.takeWhile innerF) = hexS.data.toList.isPrefixOf l := by
  have e : hexS.data.toList = [48, 120] := rfl
  have i1 : innerF 48 = true := by decide
  have i2 : innerF 120 = true := by decide
  rw [e]
  match l with
  | [] => rfl
  | a :: r =>
    rw [List.takeWhile_cons]
    cases ha : innerF a with
    | false =>
      have : (48 == a) = false := by
        rw [beq_eq_false_iff_ne]; rintro rfl; rw [i1] at ha; cases ha
      simp [List.isPrefixOf, this]
    | true =>
      simp only [if_true, List.isPrefixOf]
      match r with
      | [] => rfl
      | b :: r =>
        rw [List.takeWhile_cons]
        cases hb : innerF b with
        | false =>
          have : (120 == b) = false := by
            rw [beq_eq_false_iff_ne]; rintro rfl; rw [i2] at hb; cases hb
          simp [List.isPrefixOf, this]
        | true => simp [List.isPrefixOf]
/-- where a number ends -/
def numN (u : ByteArray) : Option Int :=
  bif preF u hexS then (numE 16 (u.data.toList.drop 2) 0 0).map fun x => ((2 + x.2 : Nat) : Int) else (numE 10 u.data.toList 0 0).map fun x => ((x.2 : Nat) : Int)
theorem numN_eq (u : ByteArray) : numN u = bif numOk (u.extract 0 (wdN u).toNat) then some (wdN u) else none := by
  have hw : (u.extract 0 (wdN u).toNat).data.toList = u.data.toList.takeWhile innerF := by
    rw [extract_list, List.drop_zero]; exact take_run innerF u.data.toList
  have hn : wdN u = ((u.data.toList.takeWhile innerF).length : Int) := by
    unfold wdN; rw [run_take]; omega
  have hp : preF (u.extract 0 (wdN u).toNat) hexS = preF u hexS := by
    rw [pre_eq, pre_eq, hw, hex_pre]
  have he : ∀ t : ByteArray, (t == ⟨#[]⟩) = decide (t.data.toList.length = 0) := by
    intro t
    rw [ba_beq, decide_eq_decide]
    constructor
    · rintro rfl; rfl
    · intro h
      exact ba_ext (by rw [List.length_eq_zero_iff] at h; rw [h])
  unfold numN numOk baseF
  rw [hp]
  cases h : preF u hexS with
  | true =>
    have h2 : 2 ≤ (u.data.toList.takeWhile innerF).length := by
      rw [pre_eq, ← hex_pre] at h
      have := (List.isPrefixOf_iff_prefix.1 h).length_le
      have e : hexS.data.toList.length = 2 := rfl
      omega
    have hc : (cutF (u.extract 0 (wdN u).toNat) hexS).data.toList = (u.data.toList.drop 2).takeWhile innerF := by
      unfold cutF
      rw [hp, h]
      simp only [cond_true]
      rw [ext_list, hw]
      show (u.data.toList.takeWhile innerF).drop 2 = _
      match hu : u.data.toList with
      | [] => rfl
      | [a] =>
        rw [hu] at h2
        have := (List.takeWhile_prefix (l := [a]) innerF).length_le
        simp at this; omega
      | a :: b :: r =>
        rw [hu] at h2
        rw [List.takeWhile_cons, List.takeWhile_cons] at h2 ⊢
        cases ha : innerF a with
        | false => rw [ha] at h2; simp at h2
        | true =>
          cases hb : innerF b with
          | false => rw [ha, hb] at h2; simp at h2
          | true => simp
    have hl : ((u.data.toList.drop 2).takeWhile innerF).length + 2 = (u.data.toList.takeWhile innerF).length := by
      rw [← hc]
      unfold cutF
      rw [hp, h]
      simp only [cond_true]
      rw [ext_list, hw, List.length_drop]
      show _ - 2 + 2 = _
      omega
    rw [he, hc, hn]
    simp only [cond_true]
    rw [numE_eq 16 (by omega)]
    cases numF 16 ((u.data.toList.drop 2).takeWhile innerF) 0 with
    | none => rfl
    | some v =>
      simp only [Nat.zero_add]
      by_cases g : ((u.data.toList.drop 2).takeWhile innerF).length = 0
      · rw [if_pos g, decide_eq_true g]; rfl
      · rw [if_neg g, decide_eq_false g]
        simp only [Option.map_some, Bool.not_false, cond_true, Option.some.injEq]
        omega
  | false =>
    have hc : cutF (u.extract 0 (wdN u).toNat) hexS = u.extract 0 (wdN u).toNat := by
      unfold cutF
      rw [hp, h]; rfl
    rw [he, hc, hw, hn]
    simp only [cond_false]
    rw [numE_eq 10 (by omega)]
    cases numF 10 (u.data.toList.takeWhile innerF) 0 with
    | none => rfl
    | some v =>
      simp only [Nat.zero_add]
      by_cases g : (u.data.toList.takeWhile innerF).length = 0
      · rw [if_pos g, decide_eq_true g]; rfl
      · rw [if_neg g, decide_eq_false g]; rfl
end Go.Proofs.YtcmhpjnafkpofaaDoor
