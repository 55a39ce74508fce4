/- A text taken apart, over lists of bytes. -/
import Derived.Test.YtcmhpjnafkpofaaDoorRk12
set_option linter.unusedVariables false
set_option linter.unusedSimpArgs false
namespace Go.Proofs.YtcmhpjnafkpofaaDoor
open Go Go.Am Go.Proofs
set_option maxRecDepth 10000
set_option maxHeartbeats 4000000
set_option linter.unusedVariables false
set_option linter.unusedSimpArgs false
def lexL (file : Int) : Nat → List UInt8 → Nat × Nat → List Tok → Except (Nat × Nat) (List Tok)
  | 0, _, _, l => .ok l
  | _ + 1, [], _, l => .ok l
  | k + 1, b :: r, p, l => match blkL (b :: r) with
    | none => .error p
    | some (c :: w) => lexL file k ((b :: r).drop (w.length + 1)) (walkF p (c :: w)) l
    | some [] => match tokC b r with
      | none => .error p
      | some (kind, raw, t) => lexL file k ((b :: r).drop raw.length) (walkF p raw) (l ++ [⟨kind, bal t, file, p⟩])
theorem tw_pre (p : UInt8 → Bool) (l : List UInt8) : l.takeWhile p <+: l := List.takeWhile_prefix p
theorem skip_pre {u w : List UInt8} (h : blkL u = some w) : w <+: u := by
  cases u with
  | nil => simp [blkL] at h; subst h; exact List.nil_prefix
  | cons b r =>
    rw [blk_cons] at h
    cases k0 : whiteF b with
    | true => rw [k0] at h; simp at h; subst h; exact ⟨r, rfl⟩
    | false =>
    rw [k0] at h
    simp only [cond_false] at h
    cases k1 : [47, 47].isPrefixOf (b :: r) with
    | true => rw [k1] at h; simp only [cond_true, Option.some.injEq] at h; subst h; exact tw_pre _ _
    | false =>
    rw [k1] at h
    simp only [cond_false] at h
    cases k2 : [47, 42].isPrefixOf (b :: r) with
    | false => rw [k2] at h; simp only [cond_false, Option.some.injEq] at h; subst h; exact List.nil_prefix
    | true =>
      rw [k2] at h
      simp only [cond_true] at h
      unfold cmtL at h
      cases k3 : decide (Lib.index (r.drop 1) [42, 47] ≥ 0) with
      | false => rw [k3] at h; simp at h
      | true => rw [k3] at h; simp only [cond_true, Option.some.injEq] at h; subst h; exact List.take_prefix _ _
theorem wd_pre (b : UInt8) (r : List UInt8) : wdL b r <+: b :: r := by
  unfold wdL
  obtain ⟨t, ht⟩ := tw_pre innerF r
  exact ⟨t, by rw [List.cons_append, ht]⟩
theorem tok_pre {b : UInt8} {r raw t : List UInt8} {k : Int} (h : tokC b r = some (k, raw, t)) : raw <+: b :: r ∧ 1 ≤ raw.length := by
  unfold tokC at h
  have hw : 1 ≤ (wdL b r).length := by unfold wdL; simp
  cases k1 : letterF b with
  | true => rw [k1] at h; simp only [cond_true, Option.some.injEq, Prod.mk.injEq] at h; obtain ⟨_, rfl, _⟩ := h; exact ⟨wd_pre b r, hw⟩
  | false =>
  rw [k1] at h; simp only [cond_false] at h
  cases k2 : digitF b with
  | true =>
    rw [k2] at h; simp only [cond_true] at h
    cases k3 : numOk (bal (wdL b r)) with
    | true => rw [k3] at h; simp only [cond_true, Option.some.injEq, Prod.mk.injEq] at h; obtain ⟨_, rfl, _⟩ := h; exact ⟨wd_pre b r, hw⟩
    | false => rw [k3] at h; simp at h
  | false =>
  rw [k2] at h; simp only [cond_false] at h
  cases k3 : (b.toNat == 34) with
  | true =>
    rw [k3] at h; simp only [cond_true] at h
    have e := List.takeWhile_append_dropWhile (p := notQ) (l := r)
    cases hd : r.drop (r.takeWhile notQ).length with
    | nil => rw [hd] at h; simp [strL] at h
    | cons c r2 =>
      rw [hd, str_cons] at h
      cases k4 : (c.toNat == 34) with
      | false => rw [k4] at h; simp at h
      | true =>
        rw [k4] at h; simp only [cond_true, Option.some.injEq, Prod.mk.injEq] at h
        obtain ⟨_, rfl, _⟩ := h
        refine ⟨⟨r2, ?_⟩, by simp⟩
        have e2 := List.take_append_drop (r.takeWhile notQ).length r
        rw [hd, tw_take] at e2
        rw [← e2]
        have e3 : (List.takeWhile notQ (List.takeWhile notQ r ++ c :: r2)) = List.takeWhile notQ r := by rw [e2]
        rw [e3]
        simp
  | false =>
  rw [k3] at h; simp only [cond_false] at h
  cases k4 : (b.toNat == 35) with
  | true =>
    rw [k4] at h; simp only [cond_true] at h
    cases k5 : ((wdL b r == inclL) || (wdL b r == defnL)) with
    | false => rw [k5] at h; simp at h
    | true => rw [k5] at h; simp only [cond_true, Option.some.injEq, Prod.mk.injEq] at h; obtain ⟨_, rfl, _⟩ := h; exact ⟨wd_pre b r, hw⟩
  | false =>
  rw [k4] at h; simp only [cond_false] at h
  cases k5 : twoL b r with
  | true =>
    rw [k5] at h; simp only [cond_true, Option.some.injEq, Prod.mk.injEq] at h
    obtain ⟨_, rfl, _⟩ := h
    refine ⟨?_, by simp⟩
    obtain ⟨t, ht⟩ := List.take_prefix 1 r
    exact ⟨t, by rw [List.cons_append, ht]⟩
  | false =>
    rw [k5] at h; simp only [cond_false] at h
    cases k6 : oneL.any (· == b) with
    | false => rw [k6] at h; simp at h
    | true => rw [k6] at h; simp only [cond_true, Option.some.injEq, Prod.mk.injEq] at h; obtain ⟨_, rfl, _⟩ := h; exact ⟨⟨r, rfl⟩, by simp⟩
theorem lex_nil (file : Int) (k : Nat) (p : Nat × Nat) (l : List Tok) : lexL file k [] p l = .ok l := by cases k <;> rfl
theorem lex_fuel (file : Int) : ∀ (k k' : Nat) (u : List UInt8) (p : Nat × Nat) (l : List Tok), u.length < k → u.length < k' → lexL file k u p l = lexL file k' u p l
  | 0, _, u, _, _, h, _ => by omega
  | _, 0, u, _, _, _, h => by omega
  | k + 1, k' + 1, [], p, l, _, _ => rfl
  | k + 1, k' + 1, b :: r, p, l, h, h' => by
    unfold lexL
    simp only [List.length_cons] at h h'
    cases hs : blkL (b :: r) with
    | none => rfl
    | some w =>
      cases w with
      | cons c w =>
        simp only
        exact lex_fuel file k k' _ _ _ (by rw [List.length_drop, List.length_cons]; omega) (by rw [List.length_drop, List.length_cons]; omega)
      | nil =>
        simp only
        cases ht : tokC b r with
        | none => rfl
        | some q =>
          obtain ⟨kind, raw, t⟩ := q
          have := (tok_pre ht).2
          simp only
          exact lex_fuel file k k' _ _ _ (by rw [List.length_drop, List.length_cons]; omega) (by rw [List.length_drop, List.length_cons]; omega)
theorem skip_white {b : UInt8} (r : List UInt8) (h : whiteF b = true) : blkL (b :: r) = some [b] := by rw [blk_cons, h]; rfl
theorem lex_white1 (file : Int) (k : Nat) (c : UInt8) (r : List UInt8) (p : Nat × Nat) (l : List Tok) (h : whiteF c = true) : lexL file (k + 1) (c :: r) p l = lexL file k r (walkF p [c]) l := by
  simp only [lexL, skip_white r h]; rfl
theorem lex_white (file : Int) : ∀ (r : List UInt8) (k k' : Nat) (p : Nat × Nat) (l : List Tok), r.length < k → r.length < k' → lexL file k r p l = lexL file k' (r.drop (r.takeWhile whiteF).length) (walkF p (r.takeWhile whiteF)) l
  | [], k, k', p, l, _, _ => by rw [lex_nil]; exact (lex_nil file k' _ l).symm
  | c :: r, 0, k', p, l, h, h' => by omega
  | c :: r, k + 1, k', p, l, h, h' => by
    simp only [List.length_cons] at h h'
    cases hw : whiteF c with
    | true =>
      rw [List.takeWhile_cons, hw]
      simp only [if_true, List.length_cons, List.drop_succ_cons]
      have := lex_white file r k k' (walkF p [c]) l (by omega) (by omega)
      rw [show walkF p (c :: r.takeWhile whiteF) = walkF (walkF p [c]) (r.takeWhile whiteF) from rfl, ← this]
      exact lex_white1 file k c r p l hw
    | false =>
      rw [List.takeWhile_cons, hw]
      exact lex_fuel file (k + 1) k' (c :: r) p l (by simp only [List.length_cons]; omega) (by simp only [List.length_cons]; omega)
theorem blank_no {b : UInt8} (r : List UInt8) (hw : whiteF b = false) : (∃ w, blkL (b :: r) = some w ∧ blankF (bal (b :: r)) = ((w.length : Int), true)) ∨ (blkL (b :: r) = none ∧ (blankF (bal (b :: r))).2 = false) := by
  have t1 : twoS.data.toList = [47, 47] := rfl
  have t2 : openS.data.toList = [47, 42] := rfl
  have t3 : shutS.data.toList = [42, 47] := rfl
  unfold blankF
  rw [blk_cons, pre_eq, pre_eq, t1, t2, t3, run_bal, run_bal, bal_drop _ _ _ (bal_size _), bal_list, bal_list, hw]
  simp only [cond_false]
  cases k1 : [47, 47].isPrefixOf (b :: r) with
  | true => exact .inl ⟨_, rfl, rfl⟩
  | false =>
  simp only [cond_false]
  cases k2 : [47, 42].isPrefixOf (b :: r) with
  | false =>
    refine .inl ⟨[], rfl, ?_⟩
    simp only [cond_false]
    rw [List.takeWhile_cons, hw]; rfl
  | true =>
    simp only [cond_true, List.drop_succ_cons]
    have hb := index_fits [42, 47] (r.drop 1)
    generalize Lib.index (r.drop 1) [42, 47] = j at *
    unfold cmtL
    have hp : 1 ≤ r.length := by
      cases r with
      | nil => simp [List.isPrefixOf] at k2
      | cons => simp
    cases h : decide (j ≥ 0) with
    | false => exact .inr ⟨rfl, rfl⟩
    | true =>
      rw [decide_eq_true_eq] at h
      have hb := hb h
      simp only [List.length_drop, List.length_cons, List.length_nil] at hb
      refine .inl ⟨_, rfl, ?_⟩
      simp only [List.length_take, List.length_cons]
      congr 1
      omega
theorem split_lex (file : Int) : ∀ (n : Nat) (u : List UInt8), u.length ≤ n → ∀ (k k' : Nat) (p : Nat × Nat) (l : List Tok), u.length < k → u.length < k' → splitP file k (bal u) p l = lexL file k' u p l
  | n, [], _, k, k', p, l, h, _ => by
    cases k with
    | zero => simp at h
    | succ k =>
      rw [lex_nil]; rfl
  | 0, b :: r, hn, _, _, _, _, _, _ => by simp at hn
  | n + 1, b :: r, hn, 0, _, p, l, h, _ => by omega
  | n + 1, b :: r, hn, _, 0, p, l, _, h => by omega
  | n + 1, b :: r, hn, k + 1, k' + 1, p, l, h, h' => by
    simp only [List.length_cons] at hn h h'
    have ih := split_lex file n
    have e0 : (bal (b :: r)).data.toList[0]? = some b := by rw [bal_list]; rfl
    have ed : ∀ m, (bal (b :: r)).extract m (bal (b :: r)).size = bal ((b :: r).drop m) := fun m => bal_drop _ _ _ (bal_size _)
    have et : ∀ m, ((bal (b :: r)).extract 0 m).data.toList = (b :: r).take m := fun m => by rw [bal_take, bal_list]
    unfold splitP
    rw [e0]
    simp only
    rw [tok_bal]
    simp only [ed, et]
    cases hw : whiteF b with
    | true =>
      have h1 : ∀ t : List UInt8, t.head? = some 47 → t.isPrefixOf (b :: r) = false := by
        intro t ht
        cases t with
        | nil => simp at ht
        | cons x t =>
          simp at ht; subst ht
          have : ((47 : UInt8) == b) = false := by
            rw [beq_eq_false_iff_ne]; rintro rfl; exact absurd hw (by decide)
          simp [List.isPrefixOf, this]
      have e1 : blankF (bal (b :: r)) = ((((b :: r).takeWhile whiteF).length : Int), true) := by
        unfold blankF
        rw [pre_eq, pre_eq, bal_list, h1 twoS.data.toList rfl, h1 openS.data.toList rfl]
        simp only [cond_false]
        rw [run_take, Int.zero_add]
      rw [e1]
      have e2 : 1 ≤ ((b :: r).takeWhile whiteF).length := by rw [List.takeWhile_cons, hw]; simp
      have e3 := lex_white file (b :: r) (k' + 1) k' p l (by simp; omega) 
      have e4 : decide ((((b :: r).takeWhile whiteF).length : Int) > 0) = true := by rw [decide_eq_true_eq]; omega
      simp only [cond_true, e4, Int.toNat_natCast]
      rw [tw_take]
      have e5 : ((b :: r).drop ((b :: r).takeWhile whiteF).length).length ≤ r.length := by rw [List.length_drop, List.length_cons]; omega
      rw [ih _ (by omega) k (k' + 1) _ _ (by omega) (by omega)]
      exact (lex_white file (b :: r) (k' + 1) (k' + 1) p l (by simp; omega) (by simp; omega)).symm
    | false =>
      unfold lexL
      rcases blank_no r hw with ⟨w, h1, h2⟩ | ⟨h1, h2⟩
      · have hp := skip_pre h1
        rw [List.prefix_iff_eq_take] at hp
        rw [h1, h2]
        cases w with
        | cons c w =>
          have e4 : decide ((((c :: w).length : Nat) : Int) > 0) = true := by rw [decide_eq_true_eq]; simp only [List.length_cons]; omega
          simp only [cond_true, e4, Int.toNat_natCast]
          rw [← hp]
          exact ih _ (by rw [List.length_drop]; simp only [List.length_cons]; omega) k k' _ _ (by rw [List.length_drop]; simp only [List.length_cons]; omega) (by rw [List.length_drop]; simp only [List.length_cons]; omega)
        | nil =>
          have e4 : decide (((([] : List UInt8).length : Nat) : Int) > 0) = false := rfl
          simp only [cond_true, e4, cond_false]
          cases ht : tokC b r with
          | none => rfl
          | some q =>
            obtain ⟨kind, raw, t⟩ := q
            obtain ⟨g1, g2⟩ := tok_pre ht
            rw [List.prefix_iff_eq_take] at g1
            simp only [outT, Int.toNat_natCast]
            rw [← g1]
            exact ih _ (by rw [List.length_drop]; simp only [List.length_cons]; omega) k k' _ _ (by rw [List.length_drop]; simp only [List.length_cons]; omega) (by rw [List.length_drop]; simp only [List.length_cons]; omega)
      · rw [h1, h2]; rfl
end Go.Proofs.YtcmhpjnafkpofaaDoor
