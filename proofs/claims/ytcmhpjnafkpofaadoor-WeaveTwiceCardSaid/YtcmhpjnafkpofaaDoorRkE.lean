/- rk15 rk16s, as one text. -/
import Derived.Test.YtcmhpjnafkpofaaDoorRk14
set_option linter.unusedVariables false
set_option linter.unusedSimpArgs false
/- The document's reader of tokens: a text taken apart. -/
namespace Go.Proofs.YtcmhpjnafkpofaaDoor
open Go Go.Am Go.Proofs
attribute [local irreducible] W WL DL WO RoundEnd
set_option maxRecDepth 10000
set_option maxHeartbeats 4000000
set_option linter.unusedVariables false
set_option linter.unusedSimpArgs false
theorem refSplitR [GVals] (s : ByteArray) (file : Int) (hs : s.size ≤ 20000) : Comp Tryd.prog 22 [str s, int .i64 file] (splitV file (lexL file (s.size + 1) s.data.toList (1, 1) [])) := by
  generalize hfb : splitV file (lexL file (s.size + 1) s.data.toList (1, 1) []) = fb
  have b1 : decide ((s.size : Int) > 20000) = false := decide_eq_false (by omega)
  have hsz : s.size = s.data.toList.length := rfl
  refine Spec.body (C := cx [(6, false)] 71) fits (fn := Tryd.f22) Tryd.func22 rfl (by decide) (by decide) (gI ?_)
  repeat' (first | ((first | refine C_r ?_ | refine O_r ?_); (conv => whnf); first | (refine ⟨fun hb => ?_, fun hb => ?_⟩ <;> try exact no_way) | refine A_o ?_) | fail)
  refine wLoop [0, 1, 5, 6, 7] 2 (s.size + 2) ?_
  refine (fun key => key (s.size + 1) 0 [] (by omega) (by omega) (by simp) hfb.symm :
    (∀ (k i : Nat) (l : List Tok), s.size - i < k → i ≤ s.size → l.length ≤ i → fb = splitV file (lexL file k (s.data.toList.drop i) (walkF (1, 1) (s.data.toList.take i)) l) →
    WR2 _ _ _ _ _ (k + 1) [(0, str s), (1, int .i64 file), (5, .one (.ptr 0 0)), (6, .one (.arr 1 0 (l.map Tok.row).length)), (7, int .i64 i)] [.var [.d (.sc (.int .i64 0)), .d (.sc (.int .i64 0)), .d (.sc (.complex .f64 0 0))], .arr 0 false 4 (l.map Tok.row)]) → _) ?_
  clear hfb b1
  intro k
  induction k with
  | zero => intro i l hk; omega
  | succ k ih =>
    intro i l hk hi hl hr
    cases hd : s.data.toList.drop i with
    | nil =>
      rw [hd, lex_nil] at hr
      have hlen := congrArg List.length hd
      rw [List.length_drop, List.length_nil] at hlen
      have q : decide ((i : Int) < (s.size : Int)) = false := by rw [decide_eq_false_iff_not]; omega
      refine wR (gI ?_)
      repeat' (first | ((first | refine C_r ?_ | refine O_r ?_); (conv => whnf); first | (refine ⟨fun hb => ?_, fun hb => ?_⟩ <;> try exact no_way) | refine A_o ?_ | refine fR ?_) | fail)
      exact ⟨by rw [hr]; unfold splitV faultV; rw [F_zero], rfl⟩
    | cons b r =>
      have hlen := congrArg List.length hd
      rw [List.length_drop, List.length_cons] at hlen
      have q : decide ((i : Int) < (s.size : Int)) = true := by rw [decide_eq_true_eq]; omega
      have c1 := atRefR s i (by omega)
      have hat : atF s i = walkF (1, 1) (s.data.toList.take i) := by
        unfold atF capF
        rw [if_neg (by omega), if_neg (by omega)]; simp
      rw [hat] at c1
      have hp2 := walk_len (1, 1) (s.data.toList.take i)
      rw [List.length_take] at hp2
      have step : ∀ w : List UInt8, w <+: b :: r → s.data.toList.drop (i + w.length) = (b :: r).drop w.length ∧ walkF (1, 1) (s.data.toList.take (i + w.length)) = walkF (walkF (1, 1) (s.data.toList.take i)) w ∧ w.length ≤ r.length + 1 := by
        intro w hw
        have h2 := hw.length_le
        rw [List.prefix_iff_eq_take] at hw
        refine ⟨by rw [← List.drop_drop, hd], ?_, by simpa using h2⟩
        rw [List.take_add, walk_append, hd, ← hw]
      have c3 := skipLR s i b r (by omega) hd
      have c4 := oneLR s i b r (by omega) hd
      rw [hd] at hr
      simp only [lexL] at hr
      have hs0 := @skip_pre (b :: r)
      have ht0 := @tok_pre b r
      generalize walkF (1, 1) (s.data.toList.take i) = p at *
      generalize blkL (b :: r) = bo at *
      generalize tokC b r = to2 at *
      obtain ⟨p1, p2⟩ := p
      have c2 := spotR p1 p2
      cases bo with
      | none =>
        simp only [outS2, skipV] at c3
        clear c4 step hs0 ht0 ih
        refine wR (gI ?_)
        repeat' (first | ((first | refine C_r ?_ | refine O_r ?_); (conv => whnf); first | (refine ⟨fun hb => ?_, fun hb => ?_⟩ <;> try exact no_way) | refine B_o ?_ | refine fR ?_) | refine C_l (c1) ?_ | refine C_l (c2) ?_ | refine C_l (c3) ?_ | fail)
        exact ⟨by rw [hr]; rfl, rfl⟩
      | some w =>
        cases w with
        | cons c w =>
          obtain ⟨g1, g2, g3⟩ := step (c :: w) (hs0 rfl)
          simp only [List.length_cons] at g1 g2 g3
          have g := ih (i + (w.length + 1)) l (by omega) (by omega) (by omega) (by rw [hr, g1, g2])
          have e2 : (i : Int) + (((c :: w).length : Nat) : Int) = ((i + (w.length + 1) : Nat) : Int) := by simp only [List.length_cons]; omega
          simp only [outS2, skipV] at c3
          rw [e2] at c3
          have q2 : decide (((i + (w.length + 1) : Nat) : Int) > (i : Int)) = true := by rw [decide_eq_true_eq]; omega
          clear c4 step hs0 ht0 ih g1 g2 hr
          refine wR (gI ?_)
          repeat' (first | ((first | refine C_r ?_ | refine O_r ?_); (conv => whnf); first | (refine ⟨fun hb => ?_, fun hb => ?_⟩ <;> try exact no_way) | refine B_o ?_ | refine R_o ?_) | refine C_l (c1) ?_ | refine C_l (c2) ?_ | refine C_l (c3) ?_ | fail)
          exact rE g
        | nil =>
          cases to2 with
          | none =>
            have e0 : (i : Int) + ((([] : List UInt8).length : Nat) : Int) = (i : Int) := by simp
            simp only [outS2, skipV, outT, oneV] at c3 c4
            rw [e0] at c3
            have q2 : decide ((i : Int) > (i : Int)) = false := by rw [decide_eq_false_iff_not]; omega
            clear step hs0 ht0 ih
            refine wR (gI ?_)
            repeat' (first | ((first | refine C_r ?_ | refine O_r ?_); (conv => whnf); first | (refine ⟨fun hb => ?_, fun hb => ?_⟩ <;> try exact no_way) | refine B_o ?_ | refine fR ?_) | refine C_l (c1) ?_ | refine C_l (c2) ?_ | refine C_l (c3) ?_ | refine C_l (c4) ?_ | fail)
            exact ⟨by rw [hr]; rfl, rfl⟩
          | some q2 =>
            obtain ⟨kind, raw, t⟩ := q2
            obtain ⟨g0, g4⟩ := ht0 rfl
            obtain ⟨g1, g2, g3⟩ := step raw g0
            simp only at hr
            have g := ih (i + raw.length) (l ++ [⟨kind, bal t, file, (p1, p2)⟩]) (by omega) (by omega) (by simp; omega) (by rw [hr, g1, g2])
            have e2 : (i : Int) + ((raw.length : Nat) : Int) = ((i + raw.length : Nat) : Int) := by omega
            have e0 : (i : Int) + ((([] : List UInt8).length : Nat) : Int) = (i : Int) := by simp
            simp only [outS2, skipV, outT, oneV] at c3 c4
            rw [e0] at c3
            rw [e2] at c4
            rw [List.map_append] at g
            have q2 : decide ((i : Int) > (i : Int)) = false := by rw [decide_eq_false_iff_not]; omega
            clear step hs0 ht0 ih g1 g2 hr
            refine wR (gI ?_)
            repeat' (first | ((first | refine C_r ?_ | refine O_r ?_); (conv => whnf); first | (refine ⟨fun hb => ?_, fun hb => ?_⟩ <;> try exact no_way) | refine B_o ?_ | refine R_o ?_) | refine C_l (c1) ?_ | refine C_l (c2) ?_ | refine C_l (c3) ?_ | refine C_l (c4) ?_ | refine A_l ?_ | fail)
            exact rE g
end Go.Proofs.YtcmhpjnafkpofaaDoor
/- Texts taken apart: what is the same, how long, how far. -/
namespace Go.Proofs.YtcmhpjnafkpofaaDoor
open Go Go.Am Go.Proofs
attribute [local irreducible] W WL DL WO RoundEnd
set_option maxRecDepth 10000
set_option maxHeartbeats 4000000
set_option linter.unusedVariables false
set_option linter.unusedSimpArgs false
theorem fEq_self (x : Nat) (h : x < 2 ^ 53) : fEq (F x) (F x) = true := by rw [fEq_F h h]; simp
abbrev lowP (p : Nat × Nat) : Prop := p.1 < 2 ^ 53 ∧ p.2 < 2 ^ 53
theorem sameToks [GVals] (l : List Tok) (hl : l.length < 2 ^ 40) (hp : ∀ x ∈ l, lowP x.at_) : Comp Tryd.prog 21 [lst Tok.row l, lst Tok.row l] (Am.bool true) := by
  refine Spec.body (C := cx [] 26) fits (fn := Tryd.f21) Tryd.func21 rfl (by decide) (by decide) (gI ?_)
  repeat' (first | ((first | refine C_r ?_ | refine O_r ?_); (conv => whnf); first | (refine ⟨fun hb => ?_, fun hb => ?_⟩ <;> try exact no_way) | refine A_o ?_) | fail)
  refine wLoop [0, 1, 5] 0 (l.length + 1) ?_
  refine (fun key => key l [] _ rfl rfl :
    (∀ (rest done : List Tok) (j : Int), l = done ++ rest → j = done.length →
    WR2 _ _ _ _ _ (rest.length + 1) [(0, lst Tok.row l), (1, lst Tok.row l), (5, int .i64 j)] []) → _) ?_
  intro rest
  induction rest with
  | nil =>
    intro done j h1 hj
    have hlen : l.length = done.length := by rw [h1]; simp
    refine wR (gI ?_)
    repeat' (first | ((first | refine C_r ?_ | refine O_r ?_); (conv => whnf); first | (refine ⟨fun hb => ?_, fun hb => ?_⟩ <;> try exact no_way) | refine A_o ?_ | refine fR ?_) | fail)
    exact ⟨rfl, rfl⟩
  | cons x rest ih =>
    intro done j h1 hj
    have hlen : l.length = done.length + (rest.length + 1) := by rw [h1]; simp
    have hx := hp x (by rw [h1]; simp)
    obtain ⟨k, t, f, p⟩ := x
    have e3 : (t == t) = true := by rw [ba_beq]; simp
    have e1 := fEq_self p.1 hx.1
    have e2 := fEq_self p.2 hx.2
    have hg : IntKind.i64.wrap (j + 1) = ((done ++ [(⟨k, t, f, p⟩ : Tok)]).length : Nat) := by rw [wrap_ok (by omega) (by omega)]; simp [hj]
    refine wR (gI ?_)
    repeat' (first | ((first | refine C_r ?_ | refine O_r ?_ | refine R_r ?_); (conv => whnf); first | (refine ⟨fun hb => ?_, fun hb => ?_⟩ <;> try exact no_way) | refine C_o ?_ | refine R_o ?_ | refine fR ?_) | refine X_d ?_ | fail)
    · exfalso
      simp only [beq_self_eq_true, e1, e2, e3, Bool.true_and, Bool.and_true, Bool.not_true] at hb
      cases hb
    · exact rE (ih _ _ (by rw [h1]; simp) hg)
def okT : Except (Nat × Nat) (List Tok) → Bool
  | .ok l => decide (l.length < 2 ^ 40)
  | .error _ => true
theorem lex_len (file : Int) : ∀ (k : Nat) (u : List UInt8) (p : Nat × Nat) (l l' : List Tok), lexL file k u p l = .ok l' → l'.length ≤ l.length + u.length
  | 0, u, p, l, l', h => by simp only [lexL, Except.ok.injEq] at h; subst h; omega
  | k + 1, [], p, l, l', h => by simp only [lexL, Except.ok.injEq] at h; subst h; simp
  | k + 1, b :: r, p, l, l', h => by
    simp only [lexL] at h
    cases hs : blkL (b :: r) with
    | none => rw [hs] at h; cases h
    | some w =>
      rw [hs] at h
      cases w with
      | cons c w =>
        have := lex_len file k _ _ _ _ h
        rw [List.length_drop] at this; omega
      | nil =>
        simp only at h
        cases ht : tokC b r with
        | none => rw [ht] at h; cases h
        | some q =>
          obtain ⟨kind, raw, t⟩ := q
          have h1 := (tok_pre ht).2
          rw [ht] at h
          have := lex_len file k _ _ _ _ h
          rw [List.length_drop, List.length_append] at this
          simp only [List.length_cons, List.length_nil] at this ⊢
          omega
def outP (B : Nat) : Except (Nat × Nat) (List Tok) → Prop
  | .ok l => ∀ x ∈ l, x.at_.1 ≤ B ∧ x.at_.2 ≤ B
  | .error p => p.1 ≤ B ∧ p.2 ≤ B
theorem lex_low (file : Int) (B : Nat) : ∀ (k : Nat) (u : List UInt8) (p : Nat × Nat) (l : List Tok), (∀ x ∈ l, x.at_.1 ≤ B ∧ x.at_.2 ≤ B) → p.1 + 2 * u.length ≤ B → p.2 + 2 * u.length ≤ B → outP B (lexL file k u p l)
  | 0, u, p, l, h, _, _ => h
  | k + 1, [], p, l, h, _, _ => h
  | k + 1, b :: r, p, l, h, h1, h2 => by
    have go : ∀ (w : List UInt8) (l2 : List Tok), w <+: b :: r → 1 ≤ w.length → (∀ x ∈ l2, x.at_.1 ≤ B ∧ x.at_.2 ≤ B) → outP B (lexL file k ((b :: r).drop w.length) (walkF p w) l2) := by
      intro w l2 hw hw1 hl2
      have hw2 := hw.length_le
      have hw3 := walk_len p w
      refine lex_low file B k _ _ _ hl2 ?_ ?_
      · rw [List.length_drop]; omega
      · rw [List.length_drop]; omega
    simp only [lexL]
    cases hs : blkL (b :: r) with
    | none => simp only; exact ⟨by omega, by omega⟩
    | some w =>
      cases w with
      | cons c w => exact go (c :: w) l (skip_pre hs) (by simp) h
      | nil =>
        simp only
        cases ht : tokC b r with
        | none => simp only; exact ⟨by omega, by omega⟩
        | some q =>
          obtain ⟨kind, raw, t⟩ := q
          refine go raw _ (tok_pre ht).1 (tok_pre ht).2 ?_
          intro x hx
          rcases List.mem_append.1 hx with hx | hx
          · exact h x hx
          · simp only [List.mem_singleton] at hx
            subst hx
            simp only
            exact ⟨by omega, by omega⟩
theorem splitLR [GVals] (s : ByteArray) (file : Int) (hs : s.size ≤ 20000) : Comp Tryd.prog 44 [str s, int .i64 file] (splitV file (lexL file (s.size + 1) s.data.toList (1, 1) [])) := by
  have h := splitR s file hs
  have e := split_lex file s.size s.data.toList (Nat.le_refl _) (s.size + 1) (s.size + 1) (1, 1) [] (Nat.lt_succ_self _) (Nat.lt_succ_self _)
  rw [list_bal] at e
  rw [e] at h
  exact h
end Go.Proofs.YtcmhpjnafkpofaaDoor
