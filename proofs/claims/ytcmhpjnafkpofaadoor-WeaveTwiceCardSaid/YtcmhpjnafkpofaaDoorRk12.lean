/- Tokens, over lists of bytes. -/
import Derived.Test.YtcmhpjnafkpofaaDoorRk5
set_option linter.unusedVariables false
set_option linter.unusedSimpArgs false
namespace Go.Proofs.YtcmhpjnafkpofaaDoor
open Go Go.Am Go.Proofs
set_option maxRecDepth 10000
set_option maxHeartbeats 4000000
set_option linter.unusedVariables false
set_option linter.unusedSimpArgs false
def bal (l : List UInt8) : ByteArray := ⟨l.toArray⟩
theorem bal_list (l : List UInt8) : (bal l).data.toList = l := by simp [bal]
theorem list_bal (s : ByteArray) : bal s.data.toList = s := ba_ext (by rw [bal_list])
theorem bal_inj {a b : List UInt8} (h : bal a = bal b) : a = b := by rw [← bal_list a, h, bal_list]
theorem bal_size (l : List UInt8) : (bal l).size = l.length := by
  show (bal l).data.toList.length = _
  rw [bal_list]
theorem bal_beq (a b : List UInt8) : (bal a == bal b) = (a == b) := by
  rw [ba_beq, Bool.eq_iff_iff, decide_eq_true_eq, beq_iff_eq]
  exact ⟨bal_inj, fun h => by rw [h]⟩
theorem bal_drop (l : List UInt8) (n : Nat) (m : Nat) (h : m = l.length) : (bal l).extract n m = bal (l.drop n) := by
  subst h
  apply ba_ext
  have := ext_list (bal l) n
  rw [bal_size] at this
  rw [this, bal_list, bal_list]
theorem bal_take (l : List UInt8) (n : Nat) : (bal l).extract 0 n = bal (l.take n) := by
  apply ba_ext
  rw [extract_list, bal_list, bal_list, List.drop_zero]
/-- the token that begins a text: its kind, what it takes, and its text -/
def wdL (b : UInt8) (r : List UInt8) : List UInt8 := b :: r.takeWhile innerF
def inclL : List UInt8 := [35, 105, 110, 99, 108, 117, 100, 101]
def defnL : List UInt8 := [35, 100, 101, 102, 105, 110, 101]
def twoL (b : UInt8) : List UInt8 → Bool
  | [] => false
  | c :: _ => [[38, 38], [124, 124], [61, 61], [33, 61], [60, 61], [62, 61]].any ([b, c] == ·)
def oneL : List UInt8 := [123, 125, 40, 41, 44, 33, 38, 124, 60, 62]
def strL (b : UInt8) (q : List UInt8) : List UInt8 → Option (Int × List UInt8 × List UInt8)
  | c :: _ => bif c.toNat == 34 then some (4, b :: (q ++ [c]), q) else none
  | [] => none
theorem str_cons (b c : UInt8) (q r : List UInt8) : strL b q (c :: r) = bif c.toNat == 34 then some (4, b :: (q ++ [c]), q) else none := rfl
def tokC (b : UInt8) (r : List UInt8) : Option (Int × List UInt8 × List UInt8) :=
  bif letterF b then some (1, wdL b r, wdL b r) else
  bif digitF b then (bif numOk (bal (wdL b r)) then some (2, wdL b r, wdL b r) else none) else
  bif b.toNat == 34 then strL b (r.takeWhile notQ) (r.drop (r.takeWhile notQ).length) else
  bif b.toNat == 35 then (bif (wdL b r == inclL) || (wdL b r == defnL) then some (5, wdL b r, wdL b r) else none) else
  bif twoL b r then some (3, b :: r.take 1, b :: r.take 1) else
  bif oneL.any (· == b) then some (3, [b], [b]) else none
def outT : Option (Int × List UInt8 × List UInt8) → Option (Int × Int × ByteArray)
  | some (k, raw, t) => some (k, (raw.length : Int), bal t)
  | none => none
theorem run_bal (p : UInt8 → Bool) (l : List UInt8) : runF p (bal l).data.toList 0 = (l.takeWhile p).length := by rw [bal_list, run_take]; omega
theorem tw_take (p : UInt8 → Bool) (l : List UInt8) : l.take (l.takeWhile p).length = l.takeWhile p := by
  have h := (List.takeWhile_prefix (l := l) p)
  rw [List.prefix_iff_eq_take] at h
  exact h.symm
theorem wdN_bal (b : UInt8) (r : List UInt8) (h : innerF b = true) : wdN (bal (b :: r)) = (wdL b r).length := by
  unfold wdN
  rw [run_bal, List.takeWhile_cons, h]; rfl
theorem take_wd (b : UInt8) (r : List UInt8) : (b :: r).take (wdL b r).length = wdL b r := by
  unfold wdL
  rw [List.length_cons, List.take_succ_cons, tw_take]
theorem hsN_bal (b : UInt8) (r : List UInt8) : hsN (bal (b :: r)) = (wdL b r).length := by
  unfold hsN
  rw [bal_drop _ _ _ (bal_size _), run_bal]
  unfold wdL
  simp only [List.drop_succ_cons, List.drop_zero, List.length_cons]
  omega
theorem incl_bal : inclS = bal inclL := rfl
theorem defn_bal : defnS = bal defnL := rfl
theorem hash_bal (b : UInt8) (r : List UInt8) : hashF (bal (b :: r)) = outT (bif (wdL b r == inclL) || (wdL b r == defnL) then some (5, wdL b r, wdL b r) else none) := by
  unfold hashF
  rw [hsN_bal, Int.toNat_natCast, bal_take, take_wd, incl_bal, defn_bal, bal_beq, bal_beq]
  cases (wdL b r == inclL) || (wdL b r == defnL) <;> rfl
theorem text_bal (b : UInt8) (r : List UInt8) : textF (bal (b :: r)) = outT (strL b (r.takeWhile notQ) (r.drop (r.takeWhile notQ).length)) := by
  have e1 : txN (bal (b :: r)) = (r.takeWhile notQ).length := by
    unfold txN
    rw [bal_drop _ _ _ (bal_size _), run_bal]; rfl
  have e2 : (((r.takeWhile notQ).length : Int) + 1).toNat = (r.takeWhile notQ).length + 1 := by omega
  have e3 : (bal (b :: r)).extract 1 ((r.takeWhile notQ).length + 1) = bal (r.takeWhile notQ) := by
    apply ba_ext
    rw [extract_list, bal_list, bal_list, List.take_succ_cons, List.drop_succ_cons, List.drop_zero, tw_take]
  have e4 : (bal (b :: r)).data.toList[(r.takeWhile notQ).length + 1]? = (r.drop (r.takeWhile notQ).length)[0]? := by
    rw [bal_list, List.getElem?_cons_succ, List.getElem?_drop, Nat.add_zero]
  unfold textF textG
  rw [e1, e2, e3]
  cases hd : r.drop (r.takeWhile notQ).length with
  | nil =>
    rw [hd] at e4
    rw [e4]; rfl
  | cons c r2 =>
    rw [hd] at e4
    rw [e4]
    simp only [List.getElem?_cons_zero, strL]
    cases c.toNat == 34 with
    | true =>
      simp only [cond_true, outT, List.length_cons, List.length_append, List.length_nil]
      rw [show ((r.takeWhile notQ).length : Int) + 2 = (((r.takeWhile notQ).length + (0 + 1) + 1 : Nat) : Int) from by omega]
    | false => rfl
theorem twos_bal (b c : UInt8) (r : List UInt8) : twos.any ((bal (b :: c :: r)).extract 0 2 == ·) = twoL b (c :: r) := by
  rw [bal_take]
  show twos.any (bal [b, c] == ·) = _
  have e : twos = [bal [38, 38], bal [124, 124], bal [61, 61], bal [33, 61], bal [60, 61], bal [62, 61]] := rfl
  rw [e]
  simp only [List.any_cons, List.any_nil, bal_beq, twoL]
theorem sign_bal (b : UInt8) (r : List UInt8) : signF (bal (b :: r)) = bif twoL b r then 2 else bif oneL.any (· == b) then 1 else 0 := by
  unfold signF
  have e0 : (bal (b :: r)).data.toList[0]? = some b := by rw [bal_list]; rfl
  rw [e0, bal_size]
  cases r with
  | nil => rfl
  | cons c r =>
    rw [twos_bal]
    have : decide ((((b :: c :: r).length : Nat) : Int) > 1) = true := by simp only [List.length_cons, decide_eq_true_eq]; omega
    rw [this]; rfl
theorem tok_bal (b : UInt8) (r : List UInt8) : tokB (bal (b :: r)) b = outT (tokC b r) := by
  unfold tokB tokC
  cases k1 : letterF b with
  | true =>
    rw [wdN_bal b r (by unfold innerF; rw [k1]; rfl), Int.toNat_natCast, bal_take, take_wd]; rfl
  | false =>
  cases k2 : digitF b with
  | true =>
    rw [wdN_bal b r (by unfold innerF; rw [k1, k2]; rfl), Int.toNat_natCast, bal_take, take_wd]
    simp only [cond_true, cond_false]
    cases numOk (bal (wdL b r)) <;> rfl
  | false =>
  simp only [cond_false]
  cases k3 : (b.toNat == 34) with
  | true => rw [text_bal]; rfl
  | false =>
  simp only [cond_false]
  cases k4 : (b.toNat == 35) with
  | true => rw [hash_bal]; rfl
  | false =>
  simp only [cond_false]
  rw [sign_bal]
  cases k5 : twoL b r with
  | true =>
    cases r with
    | nil => simp [twoL] at k5
    | cons c r => 
      simp only [cond_true]
      rw [show decide ((2 : Int) > 0) = true from rfl, bal_take]; rfl
  | false =>
    cases oneL.any (· == b) with
    | true => simp only [cond_true, cond_false]; rw [show decide ((1 : Int) > 0) = true from rfl, bal_take]; rfl
    | false => rfl
/-- what tells nothing at the head of a text, one blank at a time -/
def cmtL (u : List UInt8) (j : Int) : Option (List UInt8) := bif decide (j ≥ 0) then some (u.take (j + 4).toNat) else none
def blkL : List UInt8 → Option (List UInt8)
  | [] => some []
  | b :: r => bif whiteF b then some [b] else
    bif [47, 47].isPrefixOf (b :: r) then some ((b :: r).takeWhile notNl) else
    bif [47, 42].isPrefixOf (b :: r) then cmtL (b :: r) (Lib.index (r.drop 1) [42, 47]) else some []
theorem blk_cons (b : UInt8) (r : List UInt8) : blkL (b :: r) = bif whiteF b then some [b] else
    bif [47, 47].isPrefixOf (b :: r) then some ((b :: r).takeWhile notNl) else
    bif [47, 42].isPrefixOf (b :: r) then cmtL (b :: r) (Lib.index (r.drop 1) [42, 47]) else some [] := rfl
def outS2 : Option (List UInt8) → Option Int
  | some w => some (w.length : Int)
  | none => none
theorem skip_bal (b : UInt8) (r : List UInt8) : skipF (bal (b :: r)) b = outS2 (blkL (b :: r)) := by
  have t1 : twoS.data.toList = [47, 47] := rfl
  have t2 : openS.data.toList = [47, 42] := rfl
  have t3 : shutS.data.toList = [42, 47] := rfl
  unfold skipF
  rw [blk_cons, pre_eq, pre_eq, t1, t2, t3, run_bal, bal_drop _ _ _ (bal_size _), bal_list, bal_list]
  cases whiteF b with
  | true => rfl
  | false =>
  simp only [cond_false]
  cases k1 : [47, 47].isPrefixOf (b :: r) with
  | true => rfl
  | false =>
  simp only [cond_false]
  cases k2 : [47, 42].isPrefixOf (b :: r) with
  | false => rfl
  | true =>
    simp only [cond_true, List.drop_succ_cons]
    have hb := index_fits [42, 47] (r.drop 1)
    generalize Lib.index (r.drop 1) [42, 47] = j at *
    unfold cmtL
    have hp : 1 ≤ r.length := by
      cases r with
      | nil => simp [List.isPrefixOf] at k2
      | cons => simp
    cases h : decide (j ≥ 0) with
    | false => rfl
    | true =>
      rw [decide_eq_true_eq] at h
      have hb := hb h
      simp only [List.length_drop, List.length_cons, List.length_nil] at hb
      simp only [cond_true, outS2, List.length_take, List.length_cons]
      congr 1
      omega
end Go.Proofs.YtcmhpjnafkpofaaDoor
