/- The law TokenTells. -/
import Derived.Test.YtkjlmgfmedehiaaRk15
import Derived.Test.YtkjlmgfmedehiaaAl9
set_option linter.unusedVariables false
set_option linter.unusedSimpArgs false
namespace Go.Proofs.Ytkjlmgfmedehiaa
open Go Go.Am Go.Proofs
attribute [local irreducible] W WL DL WO RoundEnd
set_option maxRecDepth 10000
set_option maxHeartbeats 4000000
set_option linter.unusedVariables false
set_option linter.unusedSimpArgs false
theorem fEq_self (x : Nat) (h : x < 2 ^ 53) : fEq (F x) (F x) = true := by rw [fEq_F h h]; simp
abbrev lowP (p : Nat × Nat) : Prop := p.1 < 2 ^ 53 ∧ p.2 < 2 ^ 53
theorem sameToks [GVals] (l : List Tok) (hl : l.length < 2 ^ 40) (hp : ∀ x ∈ l, lowP x.at_) : Comp Try.prog 16 [lst Tok.row l, lst Tok.row l] (Am.bool true) := by
  refine Spec.body (C := cx [] 26) fits (fn := Try.f16) Try.func16 rfl (by decide) (by decide) (gI ?_)
  repeat' (first | ((first | refine C_r ?_ | refine C0_r ?_ | refine O_r ?_ | refine R_r ?_); (conv => whnf); first | (refine ⟨fun hb => ?_, fun hb => ?_⟩ <;> try exact no_way) | refine A_o ?_ | refine B_o ?_ | refine C_o ?_ | refine R_o ?_ | refine fR ?_ | refine fRk ?_ | refine F_o ?_) | refine SA_l ?_ | refine V_l ?_ | refine L_l ?_ | refine Q_l ?_ | refine X_l ?_ | refine Xa_l ?_ | refine Xs_l ?_ | refine K_l ?_ | refine Ka_l ?_ | refine Lk_l ?_ | refine Up_l ?_ | refine Del_l ?_ | refine St_l ?_ | refine LU_l ?_ | refine Xw_l ?_ | refine Le_l ?_ | refine Se_l ?_ | refine M_l ?_ | refine A_l ?_ | refine A0_l ?_ | refine A1_l ?_ | refine Mk_l ?_ | refine Kz_l ?_ | refine W_l ?_ | fail)
  refine wLoop [0, 1, 5] 0 (l.length + 1) ?_
  refine (fun key => key l [] _ rfl rfl :
    (∀ (rest done : List Tok) (j : Int), l = done ++ rest → j = done.length →
    WR2 _ _ _ _ _ (rest.length + 1) [(0, lst Tok.row l), (1, lst Tok.row l), (5, int .i64 j)] []) → _) ?_
  intro rest
  induction rest with
  | nil =>
    intro done j h1 hj
    have hlen : l.length = done.length := by rw [h1]; simp
    refine wR (gI ?_)
    repeat' (first | ((first | refine C_r ?_ | refine C0_r ?_ | refine O_r ?_ | refine R_r ?_); (conv => whnf); first | (refine ⟨fun hb => ?_, fun hb => ?_⟩ <;> try exact no_way) | refine A_o ?_ | refine B_o ?_ | refine C_o ?_ | refine R_o ?_ | refine fR ?_ | refine fRk ?_ | refine F_o ?_) | refine SA_l ?_ | refine V_l ?_ | refine L_l ?_ | refine Q_l ?_ | refine X_l ?_ | refine Xa_l ?_ | refine Xs_l ?_ | refine K_l ?_ | refine Ka_l ?_ | refine Lk_l ?_ | refine Up_l ?_ | refine Del_l ?_ | refine St_l ?_ | refine LU_l ?_ | refine Xw_l ?_ | refine Le_l ?_ | refine Se_l ?_ | refine M_l ?_ | refine A_l ?_ | refine A0_l ?_ | refine A1_l ?_ | refine Mk_l ?_ | refine Kz_l ?_ | refine W_l ?_ | fail)
    exact ⟨rfl, rfl⟩
  | cons x rest ih =>
    intro done j h1 hj
    have hlen : l.length = done.length + (rest.length + 1) := by rw [h1]; simp
    have hx := hp x (by rw [h1]; simp)
    obtain ⟨k, t, f, p⟩ := x
    have e3 : (t == t) = true := by rw [ba_beq]; simp
    have e1 := fEq_self p.1 hx.1
    have e2 := fEq_self p.2 hx.2
    have hg : IntKind.i64.wrap (j + 1) = ((done ++ [(⟨k, t, f, p⟩ : Tok)]).length : Nat) := by rw [wrap_ok (by omega) (by omega)]; simp [hj]
    refine wR (gI ?_)
    repeat' (first | ((first | refine C_r ?_ | refine C0_r ?_ | refine O_r ?_ | refine R_r ?_); (conv => whnf); first | (refine ⟨fun hb => ?_, fun hb => ?_⟩ <;> try exact no_way) | refine A_o ?_ | refine B_o ?_ | refine C_o ?_ | refine R_o ?_ | refine fR ?_ | refine fRk ?_ | refine F_o ?_) | refine SA_l ?_ | refine V_l ?_ | refine L_l ?_ | refine Q_l ?_ | refine X_l ?_ | refine Xa_l ?_ | refine Xs_l ?_ | refine K_l ?_ | refine Ka_l ?_ | refine Lk_l ?_ | refine Up_l ?_ | refine Del_l ?_ | refine St_l ?_ | refine LU_l ?_ | refine Xw_l ?_ | refine Le_l ?_ | refine Se_l ?_ | refine M_l ?_ | refine A_l ?_ | refine A0_l ?_ | refine A1_l ?_ | refine Mk_l ?_ | refine Kz_l ?_ | refine W_l ?_ | refine SA_d ?_ | refine V_d ?_ | refine L_d ?_ | refine Q_d ?_ | refine X_d ?_ | refine Xs_d ?_ | refine K_d ?_ | refine Ka_d ?_ | refine Lk_d ?_ | refine Up_d ?_ | refine A_d ?_ | refine A0_d ?_ | refine St_d ?_ | refine LU_d ?_ | refine Xw_d ?_ | refine Le_d ?_ | refine Se_d ?_ | refine M_d ?_ | refine Mk_d ?_ | refine N_d ?_ | refine Kz_d ?_ | refine W_d ?_ | fail)
    · exfalso
      simp only [beq_self_eq_true, e1, e2, e3, Bool.true_and, Bool.and_true, Bool.not_true] at hb
      cases hb
    · exact rE (ih _ _ (by rw [h1]; simp) hg)
def okT : Except (Nat × Nat) (List Tok) → Bool
  | .ok l => decide (l.length < 2 ^ 40)
  | .error _ => true
theorem lex_len (file : Int) : ∀ (k : Nat) (u : List UInt8) (p : Nat × Nat) (l l' : List Tok), lexL file k u p l = .ok l' → l'.length ≤ l.length + u.length
  | 0, u, p, l, l', h => by simp only [lexL, Except.ok.injEq] at h; subst h; omega
  | k + 1, [], p, l, l', h => by simp only [lexL, Except.ok.injEq] at h; subst h; simp
  | k + 1, b :: r, p, l, l', h => by
    simp only [lexL] at h
    cases hs : blkL (b :: r) with
    | none => rw [hs] at h; cases h
    | some w =>
      rw [hs] at h
      cases w with
      | cons c w =>
        have := lex_len file k _ _ _ _ h
        rw [List.length_drop] at this; omega
      | nil =>
        simp only at h
        cases ht : tokC b r with
        | none => rw [ht] at h; cases h
        | some q =>
          obtain ⟨kind, raw, t⟩ := q
          have h1 := (tok_pre ht).2
          rw [ht] at h
          have := lex_len file k _ _ _ _ h
          rw [List.length_drop, List.length_append] at this
          simp only [List.length_cons, List.length_nil] at this ⊢
          omega
def outP (B : Nat) : Except (Nat × Nat) (List Tok) → Prop
  | .ok l => ∀ x ∈ l, x.at_.1 ≤ B ∧ x.at_.2 ≤ B
  | .error p => p.1 ≤ B ∧ p.2 ≤ B
theorem lex_low (file : Int) (B : Nat) : ∀ (k : Nat) (u : List UInt8) (p : Nat × Nat) (l : List Tok), (∀ x ∈ l, x.at_.1 ≤ B ∧ x.at_.2 ≤ B) → p.1 + 2 * u.length ≤ B → p.2 + 2 * u.length ≤ B → outP B (lexL file k u p l)
  | 0, u, p, l, h, _, _ => h
  | k + 1, [], p, l, h, _, _ => h
  | k + 1, b :: r, p, l, h, h1, h2 => by
    have go : ∀ (w : List UInt8) (l2 : List Tok), w <+: b :: r → 1 ≤ w.length → (∀ x ∈ l2, x.at_.1 ≤ B ∧ x.at_.2 ≤ B) → outP B (lexL file k ((b :: r).drop w.length) (walkF p w) l2) := by
      intro w l2 hw hw1 hl2
      have hw2 := hw.length_le
      have hw3 := walk_len p w
      refine lex_low file B k _ _ _ hl2 ?_ ?_
      · rw [List.length_drop]; omega
      · rw [List.length_drop]; omega
    simp only [lexL]
    cases hs : blkL (b :: r) with
    | none => simp only; exact ⟨by omega, by omega⟩
    | some w =>
      cases w with
      | cons c w => exact go (c :: w) l (skip_pre hs) (by simp) h
      | nil =>
        simp only
        cases ht : tokC b r with
        | none => simp only; exact ⟨by omega, by omega⟩
        | some q =>
          obtain ⟨kind, raw, t⟩ := q
          refine go raw _ (tok_pre ht).1 (tok_pre ht).2 ?_
          intro x hx
          rcases List.mem_append.1 hx with hx | hx
          · exact h x hx
          · simp only [List.mem_singleton] at hx
            subst hx
            simp only
            exact ⟨by omega, by omega⟩
theorem splitLR [GVals] (s : ByteArray) (file : Int) (hs : s.size ≤ 20000) : Comp Try.prog 14 [str s, int .i64 file] (splitV file (lexL file (s.size + 1) s.data.toList (1, 1) [])) := by
  have h := splitR s file hs
  have e := split_lex file s.size s.data.toList (Nat.le_refl _) (s.size + 1) (s.size + 1) (1, 1) [] (Nat.lt_succ_self _) (Nat.lt_succ_self _)
  rw [list_bal] at e
  rw [e] at h
  exact h
theorem tokenTells [GVals] (s : ByteArray) (file : Int) : Comp Try.prog 5 [str s, int .i64 file] (Am.bool true) := by
  have c0 := alive9
  cases hl : decide ((s.size : Int) > 3000) with
  | true =>
    refine Spec.body (C := cx [] 39) fits (fn := Try.f5) Try.func5 rfl (by decide) (by decide) (gI ?_)
    repeat' (first | ((first | refine C_r ?_ | refine C0_r ?_ | refine O_r ?_ | refine R_r ?_); (conv => whnf); first | (refine ⟨fun hb => ?_, fun hb => ?_⟩ <;> try exact no_way) | refine A_o ?_ | refine B_o ?_ | refine C_o ?_ | refine R_o ?_ | refine fR ?_ | refine fRk ?_ | refine F_o ?_) | refine C_l (c0) ?_ | refine SA_l ?_ | refine V_l ?_ | refine L_l ?_ | refine Q_l ?_ | refine X_l ?_ | refine Xa_l ?_ | refine Xs_l ?_ | refine K_l ?_ | refine Ka_l ?_ | refine Lk_l ?_ | refine Up_l ?_ | refine Del_l ?_ | refine St_l ?_ | refine LU_l ?_ | refine Xw_l ?_ | refine Le_l ?_ | refine Se_l ?_ | refine M_l ?_ | refine A_l ?_ | refine A0_l ?_ | refine A1_l ?_ | refine Mk_l ?_ | refine Kz_l ?_ | refine W_l ?_ | fail)
    all_goals exact ⟨rfl, rfl⟩
  | false =>
    have hs : s.size ≤ 3000 := by rw [decide_eq_false_iff_not] at hl; omega
    have c1 := splitLR s file (by omega)
    have c2 := refSplitR s file (by omega)
    have hlen := lex_len file (s.size + 1) s.data.toList (1, 1) []
    have hlow := lex_low file 20000 (s.size + 1) s.data.toList (1, 1) [] (by simp) (by simp only; have hsz : s.size = s.data.toList.length := rfl; omega) (by simp only; have hsz : s.size = s.data.toList.length := rfl; omega)
    generalize lexL file (s.size + 1) s.data.toList (1, 1) [] = q at *
    cases q with
    | error p =>
      have c3 := sameToks [] (by simp) (by simp)
      obtain ⟨p1, p2⟩ := p
      have e1 := fEq_self p1 (by have := hlow.1; simp only at this; omega)
      have e2 := fEq_self p2 (by have := hlow.2; simp only at this; omega)
      unfold splitV faultV at c1 c2
      refine Spec.body (C := cx [] 39) fits (fn := Try.f5) Try.func5 rfl (by decide) (by decide) (gI ?_)
      repeat' (first | ((first | refine C_r ?_ | refine C0_r ?_ | refine O_r ?_ | refine R_r ?_); (conv => whnf); first | (refine ⟨fun hb => ?_, fun hb => ?_⟩ <;> try exact no_way) | refine A_o ?_ | refine B_o ?_ | refine C_o ?_ | refine R_o ?_ | refine fR ?_ | refine fRk ?_ | refine F_o ?_) | refine C_l (c0) ?_ | refine C_l (c1) ?_ | refine C_l (c2) ?_ | refine C_l (c3) ?_ | refine SA_l ?_ | refine V_l ?_ | refine L_l ?_ | refine Q_l ?_ | refine X_l ?_ | refine Xa_l ?_ | refine Xs_l ?_ | refine K_l ?_ | refine Ka_l ?_ | refine Lk_l ?_ | refine Up_l ?_ | refine Del_l ?_ | refine St_l ?_ | refine LU_l ?_ | refine Xw_l ?_ | refine Le_l ?_ | refine Se_l ?_ | refine M_l ?_ | refine A_l ?_ | refine A0_l ?_ | refine A1_l ?_ | refine Mk_l ?_ | refine Kz_l ?_ | refine W_l ?_ | refine C_d (c0) ?_ | refine C_d (c1) ?_ | refine C_d (c2) ?_ | refine C_d (c3) ?_ | refine SA_d ?_ | refine V_d ?_ | refine L_d ?_ | refine Q_d ?_ | refine X_d ?_ | refine Xs_d ?_ | refine K_d ?_ | refine Ka_d ?_ | refine Lk_d ?_ | refine Up_d ?_ | refine A_d ?_ | refine A0_d ?_ | refine St_d ?_ | refine LU_d ?_ | refine Xw_d ?_ | refine Le_d ?_ | refine Se_d ?_ | refine M_d ?_ | refine Mk_d ?_ | refine N_d ?_ | refine Kz_d ?_ | refine W_d ?_ | fail)
      all_goals first | exact ⟨rfl, rfl⟩ | (exfalso; simp only [beq_self_eq_true, e1, e2, Bool.true_and, Bool.and_true] at hb; cases hb)
    | ok l =>
      have hsz : s.size = s.data.toList.length := rfl
      have := hlen l rfl
      have e1 := fEq_self 0 (by decide)
      have e2 := e1
      have c3 := sameToks l (by simp at this; omega) (fun x hx => by have := hlow x hx; unfold lowP; omega)
      unfold splitV faultV at c1 c2
      refine Spec.body (C := cx [] 39) fits (fn := Try.f5) Try.func5 rfl (by decide) (by decide) (gI ?_)
      repeat' (first | ((first | refine C_r ?_ | refine C0_r ?_ | refine O_r ?_ | refine R_r ?_); (conv => whnf); first | (refine ⟨fun hb => ?_, fun hb => ?_⟩ <;> try exact no_way) | refine A_o ?_ | refine B_o ?_ | refine C_o ?_ | refine R_o ?_ | refine fR ?_ | refine fRk ?_ | refine F_o ?_) | refine C_l (c0) ?_ | refine C_l (c1) ?_ | refine C_l (c2) ?_ | refine C_l (c3) ?_ | refine SA_l ?_ | refine V_l ?_ | refine L_l ?_ | refine Q_l ?_ | refine X_l ?_ | refine Xa_l ?_ | refine Xs_l ?_ | refine K_l ?_ | refine Ka_l ?_ | refine Lk_l ?_ | refine Up_l ?_ | refine Del_l ?_ | refine St_l ?_ | refine LU_l ?_ | refine Xw_l ?_ | refine Le_l ?_ | refine Se_l ?_ | refine M_l ?_ | refine A_l ?_ | refine A0_l ?_ | refine A1_l ?_ | refine Mk_l ?_ | refine Kz_l ?_ | refine W_l ?_ | refine C_d (c0) ?_ | refine C_d (c1) ?_ | refine C_d (c2) ?_ | refine C_d (c3) ?_ | refine SA_d ?_ | refine V_d ?_ | refine L_d ?_ | refine Q_d ?_ | refine X_d ?_ | refine Xs_d ?_ | refine K_d ?_ | refine Ka_d ?_ | refine Lk_d ?_ | refine Up_d ?_ | refine A_d ?_ | refine A0_d ?_ | refine St_d ?_ | refine LU_d ?_ | refine Xw_d ?_ | refine Le_d ?_ | refine Se_d ?_ | refine M_d ?_ | refine Mk_d ?_ | refine N_d ?_ | refine Kz_d ?_ | refine W_d ?_ | fail)
      all_goals first | exact ⟨rfl, rfl⟩ | (exfalso; simp only [beq_self_eq_true, e1, e2, Bool.true_and, Bool.and_true] at hb; cases hb)
theorem tokenTells_typed [GVals] {x0 x1 : List D} (y0 : Typed Try.prog 9 x0) (y1 : Typed Try.prog 3 x1) : Comp Try.prog 5 [argV (aggTy Try.prog 9) x0, argV (aggTy Try.prog 3) x1] (Am.bool true) := by
  have a0 : aggTy Try.prog 9 = false := by unfold aggTy; rw [Try.underlying9]
  have a1 : aggTy Try.prog 3 = false := by unfold aggTy; rw [Try.underlying3]
  obtain ⟨s, rfl, _⟩ := y0.str_inv Try.underlying9
  obtain ⟨n, rfl, _⟩ := y1.int_inv Try.underlying3
  rw [a0, a1]
  exact tokenTells s n
end Go.Proofs.Ytkjlmgfmedehiaa
