/- What the tokens of a text are; two texts, line by line. -/
import Derived.Test.YtcmhpjnafkpofaaDoorRk13
set_option linter.unusedVariables false
set_option linter.unusedSimpArgs false
namespace Go.Proofs.YtcmhpjnafkpofaaDoor
open Go Go.Am Go.Proofs
set_option maxRecDepth 10000
set_option maxHeartbeats 4000000
set_option linter.unusedVariables false
set_option linter.unusedSimpArgs false
inductive Lex (file : Int) : List UInt8 → Nat × Nat → List Tok → Prop
  | nil (p : Nat × Nat) : Lex file [] p []
  | skip {u : List UInt8} {p : Nat × Nat} {ts : List Tok} (c : UInt8) (w : List UInt8) : blkL u = some (c :: w) → Lex file (u.drop (w.length + 1)) (walkF p (c :: w)) ts → Lex file u p ts
  | tok {b : UInt8} {r : List UInt8} {p : Nat × Nat} {ts : List Tok} {kind : Int} {raw t : List UInt8} : blkL (b :: r) = some [] → tokC b r = some (kind, raw, t) → Lex file ((b :: r).drop raw.length) (walkF p raw) ts → Lex file (b :: r) p (⟨kind, bal t, file, p⟩ :: ts)
theorem lex_of (file : Int) : ∀ (k : Nat) (u : List UInt8) (p : Nat × Nat) (l l' : List Tok), u.length < k → lexL file k u p l = .ok l' → ∃ ts, l' = l ++ ts ∧ Lex file u p ts
  | 0, u, p, l, l', h, _ => by omega
  | k + 1, [], p, l, l', _, h => by
    simp only [lexL, Except.ok.injEq] at h; subst h
    exact ⟨[], by simp, .nil p⟩
  | k + 1, b :: r, p, l, l', hk, h => by
    simp only [lexL] at h
    simp only [List.length_cons] at hk
    cases hs : blkL (b :: r) with
    | none => rw [hs] at h; cases h
    | some w =>
      rw [hs] at h
      cases w with
      | cons c w =>
        obtain ⟨ts, h1, h2⟩ := lex_of file k _ _ _ _ (by rw [List.length_drop, List.length_cons]; omega) h
        exact ⟨ts, h1, .skip c w hs h2⟩
      | nil =>
        simp only at h
        cases ht : tokC b r with
        | none => rw [ht] at h; cases h
        | some q =>
          obtain ⟨kind, raw, t⟩ := q
          have h1 := (tok_pre ht).2
          rw [ht] at h
          obtain ⟨ts, h1, h2⟩ := lex_of file k _ _ _ _ (by rw [List.length_drop, List.length_cons]; omega) h
          exact ⟨_, by rw [h1, List.append_assoc]; rfl, .tok hs ht h2⟩
theorem lex_to {file : Int} {u : List UInt8} {p : Nat × Nat} {ts : List Tok} (h : Lex file u p ts) : ∀ (k : Nat) (l : List Tok), u.length < k → lexL file k u p l = .ok (l ++ ts) := by
  induction h with
  | nil p => intro k l _; rw [lex_nil, List.append_nil]
  | @skip u p ts c w h1 h2 ih =>
    intro k l hk
    cases u with
    | nil => simp [blkL] at h1
    | cons b r =>
      cases k with
      | zero => omega
      | succ k =>
        simp only [lexL, h1]
        simp only [List.length_cons] at hk
        exact ih k l (by rw [List.length_drop, List.length_cons]; omega)
  | @tok b r p ts kind raw t h1 h2 h3 ih =>
    intro k l hk
    cases k with
    | zero => omega
    | succ k =>
      simp only [lexL, h1, h2]
      simp only [List.length_cons] at hk
      have := (tok_pre h2).2
      rw [ih k _ (by rw [List.length_drop, List.length_cons]; omega), List.append_assoc]; rfl
theorem tw_app (p : UInt8 → Bool) (c : UInt8) (t : List UInt8) (hc : p c = false) : ∀ u : List UInt8, (u ++ c :: t).takeWhile p = u.takeWhile p
  | [] => by rw [List.nil_append, List.takeWhile_cons, hc]; rfl
  | x :: u => by
    rw [List.cons_append, List.takeWhile_cons, List.takeWhile_cons, tw_app p c t hc u]
theorem pre_app (x : UInt8) (hx : (x == 10) = false) (b : UInt8) (t : List UInt8) : ∀ r : List UInt8, [47, x].isPrefixOf (b :: (r ++ 10 :: t)) = [47, x].isPrefixOf (b :: r)
  | [] => by simp only [List.nil_append, List.isPrefixOf, hx]; simp
  | c :: r => by simp [List.isPrefixOf]
theorem index_cons (b : UInt8) (l sub : List UInt8) : Lib.index (b :: l) sub = if sub.isPrefixOf (b :: l) then 0 else if Lib.index l sub == -1 then -1 else Lib.index l sub + 1 := by rw [Lib.index]
theorem index_app (y : List UInt8) : ∀ x : List UInt8, 0 ≤ Lib.index x [42, 47] → Lib.index (x ++ y) [42, 47] = Lib.index x [42, 47]
  | [], h => by simp [Lib.index] at h
  | [b], h => by simp [Lib.index, List.isPrefixOf] at h
  | b :: c :: l, h => by
    have ih := index_app y (c :: l)
    rw [List.cons_append, index_cons b (c :: l ++ y), index_cons b (c :: l)]
    rw [index_cons b (c :: l)] at h
    have e : [42, 47].isPrefixOf (b :: ((c :: l) ++ y)) = [42, 47].isPrefixOf (b :: c :: l) := by simp [List.isPrefixOf]
    rw [e]
    split
    · rfl
    · rename_i h1
      rw [if_neg h1] at h
      have hb := (index_bound (c :: l) [42, 47]).1
      split at h
      · omega
      · rename_i h2
        simp only [beq_iff_eq] at h2
        rw [ih (by omega)]
theorem blk_app (t : List UInt8) {b : UInt8} {r w : List UInt8} (h : blkL (b :: r) = some w) : blkL (b :: (r ++ 10 :: t)) = some w := by
  rw [blk_cons] at h ⊢
  rw [pre_app 47 (by decide), pre_app 42 (by decide)]
  cases k0 : whiteF b with
  | true => rw [k0] at h; exact h
  | false =>
  rw [k0] at h
  simp only [cond_false] at h ⊢
  cases k1 : [47, 47].isPrefixOf (b :: r) with
  | true =>
    rw [k1] at h
    simp only [cond_true] at h ⊢
    rw [← h, ← List.cons_append, tw_app notNl 10 t (by decide)]
  | false =>
  rw [k1] at h
  simp only [cond_false] at h ⊢
  cases k2 : [47, 42].isPrefixOf (b :: r) with
  | false => rw [k2] at h; exact h
  | true =>
    rw [k2] at h
    simp only [cond_true] at h ⊢
    cases r with
    | nil => simp [List.isPrefixOf] at k2
    | cons c r =>
      simp only [List.cons_append, List.drop_succ_cons, List.drop_zero] at h ⊢
      unfold cmtL at h ⊢
      cases k3 : decide (Lib.index r [42, 47] ≥ 0) with
      | false => rw [k3] at h; cases h
      | true =>
        have k4 : 0 ≤ Lib.index r [42, 47] := by rw [decide_eq_true_eq] at k3; omega
        have k5 := index_fits [42, 47] r k4
        simp only [List.length_cons, List.length_nil] at k5
        rw [index_app _ _ k4, k3]
        rw [k3] at h
        simp only [cond_true] at h ⊢
        rw [← h, ← List.cons_append, ← List.cons_append, List.take_append_of_le_length (by simp only [List.length_cons]; omega)]
theorem wd_app (b : UInt8) (r t : List UInt8) : wdL b (r ++ 10 :: t) = wdL b r := by
  unfold wdL
  rw [tw_app innerF 10 t (by decide)]
theorem two_no (b c : UInt8) (t : List UInt8) (hc : c = 10 ∨ c = 32) : twoL b (c :: t) = false := by
  unfold twoL
  rcases hc with rfl | rfl <;> simp
theorem tok_app (t : List UInt8) {b : UInt8} {r : List UInt8} {q : Int × List UInt8 × List UInt8} (h : tokC b r = some q) : tokC b (r ++ 10 :: t) = some q := by
  unfold tokC at h ⊢
  rw [wd_app]
  cases k1 : letterF b with
  | true => rw [k1] at h; exact h
  | false =>
  rw [k1] at h; simp only [cond_false] at h ⊢
  cases k2 : digitF b with
  | true => rw [k2] at h; exact h
  | false =>
  rw [k2] at h; simp only [cond_false] at h ⊢
  cases k3 : (b.toNat == 34) with
  | true =>
    rw [k3] at h; simp only [cond_true] at h ⊢
    rw [tw_app notQ 10 t (by decide), List.drop_append_of_le_length (tw_pre notQ r).length_le]
    cases hd : r.drop (r.takeWhile notQ).length with
    | nil => rw [hd] at h; simp [strL] at h
    | cons c r2 => rw [hd, str_cons] at h; rw [List.cons_append, str_cons]; exact h
  | false =>
  rw [k3] at h; simp only [cond_false] at h ⊢
  cases k4 : (b.toNat == 35) with
  | true => rw [k4] at h; exact h
  | false =>
  rw [k4] at h; simp only [cond_false] at h ⊢
  cases r with
  | nil =>
    rw [List.nil_append, two_no b 10 t (.inl rfl)]
    exact h
  | cons c r => exact h
/-- two texts, one behind the other with a line's end between them -/
theorem lex_join {file : Int} (t : List UInt8) {u : List UInt8} {p : Nat × Nat} {ts : List Tok} (h : Lex file u p ts) : ∀ us : List Tok, Lex file (10 :: t) (walkF p u) us → Lex file (u ++ 10 :: t) p (ts ++ us) := by
  induction h with
  | nil p => intro us h; exact h
  | @skip u p ts c w h1 h2 ih =>
    intro us hus
    cases u with
    | nil => simp [blkL] at h1
    | cons b r =>
      have hp := skip_pre h1
      have hl := hp.length_le
      have he : (b :: r) = (c :: w) ++ (b :: r).drop (w.length + 1) := by
        have := List.take_append_drop (w.length + 1) (b :: r)
        rw [List.prefix_iff_eq_take] at hp
        rw [show w.length + 1 = (c :: w).length from rfl, ← hp] at this
        exact this.symm
      refine .skip c w (blk_app t h1) ?_
      rw [List.drop_append_of_le_length (by simpa using hl)]
      refine ih us ?_
      rw [← walk_append, ← he]
      exact hus
  | @tok b r p ts kind raw t' h1 h2 h3 ih =>
    intro us hus
    obtain ⟨hp, hr1⟩ := tok_pre h2
    have hl := hp.length_le
    have he : (b :: r) = raw ++ (b :: r).drop raw.length := by
      have := List.take_append_drop raw.length (b :: r)
      rw [List.prefix_iff_eq_take] at hp
      rw [← hp] at this
      exact this.symm
    refine .tok (blk_app t h1) (tok_app t h2) ?_
    show Lex file (((b :: r) ++ 10 :: t).drop raw.length) (walkF p raw) (ts ++ us)
    rw [List.drop_append_of_le_length hl]
    refine ih us ?_
    rw [← walk_append, ← he]
    exact hus
def shT (d : Nat) (x : Tok) : Tok := ⟨x.kind, x.text, x.file, (x.at_.1 + d, x.at_.2)⟩
theorem walk_shift (d : Nat) : ∀ (w : List UInt8) (p : Nat × Nat), walkF (p.1 + d, p.2) w = ((walkF p w).1 + d, (walkF p w).2)
  | [], p => rfl
  | b :: w, p => by
    have ih := walk_shift d w (stepF p b)
    show walkF (stepF (p.1 + d, p.2) b) w = ((walkF (stepF p b) w).1 + d, (walkF (stepF p b) w).2)
    rw [← ih]
    congr 1
    unfold stepF
    split
    · simp only; congr 1; omega
    · rfl
theorem lex_shift {file : Int} (d : Nat) {u : List UInt8} {p : Nat × Nat} {ts : List Tok} (h : Lex file u p ts) : Lex file u (p.1 + d, p.2) (ts.map (shT d)) := by
  induction h with
  | nil p => exact .nil _
  | @skip u p ts c w h1 h2 ih => 
    refine .skip c w h1 ?_
    rw [walk_shift]; exact ih
  | @tok b r p ts kind raw t' h1 h2 h3 ih =>
    refine Lex.tok h1 h2 ?_
    rw [walk_shift]; exact ih
theorem join_lex (file : Int) (s t : List UInt8) (x y : List Tok) (hx : Lex file s (1, 1) x) (hy : Lex file t (1, 1) y) : Lex file (s ++ 10 :: t) (1, 1) (x ++ y.map (shT (walkF (1, 1) s).1)) := by
  refine lex_join t hx _ ?_
  have h := lex_shift (walkF (1, 1) s).1 hy
  refine .skip 10 [] (skip_white t (by decide)) ?_
  show Lex file t (stepF (walkF (1, 1) s) 10) _
  unfold stepF
  rw [if_pos rfl]
  simp only at h
  rw [Nat.add_comm] at h
  exact h
end Go.Proofs.YtcmhpjnafkpofaaDoor
