/- Blanks and remarks between tokens. -/
import Derived.Test.YtkjlmgfmedehiaaRk17
set_option linter.unusedVariables false
set_option linter.unusedSimpArgs false
namespace Go.Proofs.Ytkjlmgfmedehiaa
open Go Go.Am Go.Proofs
set_option maxRecDepth 10000
set_option maxHeartbeats 4000000
set_option linter.unusedVariables false
set_option linter.unusedSimpArgs false
theorem tw_all (p : UInt8 → Bool) (c : UInt8) (t : List UInt8) (hc : p c = false) : ∀ u : List UInt8, (∀ x ∈ u, p x = true) → (u ++ c :: t).takeWhile p = u
  | [], _ => by rw [List.nil_append, List.takeWhile_cons, hc]; rfl
  | x :: u, h => by
    rw [List.cons_append, List.takeWhile_cons, h x (by simp), tw_all p c t hc u fun y hy => h y (by simp [hy])]; rfl
theorem tw_mem (p : UInt8 → Bool) : ∀ (u : List UInt8) (x : UInt8), x ∈ u.takeWhile p → p x = true
  | [], x, h => by simp at h
  | c :: u, x, h => by
    rw [List.takeWhile_cons] at h
    cases hc : p c with
    | false => rw [hc] at h; simp at h
    | true =>
      rw [hc] at h
      simp only [if_true, List.mem_cons] at h
      rcases h with rfl | h
      · exact hc
      · exact tw_mem p u x h
theorem wd_again (b : UInt8) (r rest : List UInt8) : wdL b ((r.takeWhile innerF) ++ 32 :: rest) = wdL b r := by
  unfold wdL
  rw [tw_all innerF 32 rest (by decide) _ (tw_mem innerF r)]
/-- how a token is written -/
def repL (k : Int) (t : List UInt8) : List UInt8 := if k == 4 then 34 :: (t ++ [34]) else t
theorem tok_again {b : UInt8} {r raw t : List UInt8} {k : Int} (h : tokC b r = some (k, raw, t)) : raw = repL k t ∧ ∃ r', raw = b :: r' ∧ ∀ rest, tokC b (r' ++ 32 :: rest) = some (k, raw, t) := by
  unfold tokC at h
  cases k1 : letterF b with
  | true =>
    rw [k1] at h; simp only [cond_true, Option.some.injEq, Prod.mk.injEq] at h
    obtain ⟨rfl, rfl, rfl⟩ := h
    exact ⟨rfl, r.takeWhile innerF, rfl, fun rest => by unfold tokC; rw [wd_again, k1]; rfl⟩
  | false =>
  rw [k1] at h; simp only [cond_false] at h
  cases k2 : digitF b with
  | true =>
    rw [k2] at h; simp only [cond_true] at h
    cases k3 : numOk (bal (wdL b r)) with
    | false => rw [k3] at h; cases h
    | true =>
      rw [k3] at h; simp only [cond_true, Option.some.injEq, Prod.mk.injEq] at h
      obtain ⟨rfl, rfl, rfl⟩ := h
      exact ⟨rfl, r.takeWhile innerF, rfl, fun rest => by unfold tokC; rw [wd_again, k1, k2, k3]; rfl⟩
  | false =>
  rw [k2] at h; simp only [cond_false] at h
  cases k3 : (b.toNat == 34) with
  | true =>
    rw [k3] at h; simp only [cond_true] at h
    cases hd : r.drop (r.takeWhile notQ).length with
    | nil => rw [hd] at h; simp [strL] at h
    | cons c r2 =>
      rw [hd, str_cons] at h
      cases k4 : (c.toNat == 34) with
      | false => rw [k4] at h; cases h
      | true =>
        rw [k4] at h; simp only [cond_true, Option.some.injEq, Prod.mk.injEq] at h
        obtain ⟨rfl, rfl, rfl⟩ := h
        have hb : b = 34 := UInt8.toNat_inj.1 (by rw [beq_iff_eq] at k3; exact k3)
        have hc : c = 34 := UInt8.toNat_inj.1 (by rw [beq_iff_eq] at k4; exact k4)
        refine ⟨by rw [hb, hc]; rfl, r.takeWhile notQ ++ [c], rfl, fun rest => ?_⟩
        unfold tokC
        rw [k1, k2, k3]
        simp only [cond_true, cond_false]
        have e1 : (r.takeWhile notQ ++ [c]) ++ 32 :: rest = r.takeWhile notQ ++ c :: 32 :: rest := by simp
        have e2 := tw_all notQ c (32 :: rest) (by rw [hc]; decide) _ (tw_mem notQ r)
        rw [e1, e2, List.drop_left, str_cons, k4]; rfl
  | false =>
  rw [k3] at h; simp only [cond_false] at h
  cases k4 : (b.toNat == 35) with
  | true =>
    rw [k4] at h; simp only [cond_true] at h
    cases k5 : ((wdL b r == inclL) || (wdL b r == defnL)) with
    | false => rw [k5] at h; cases h
    | true =>
      rw [k5] at h; simp only [cond_true, Option.some.injEq, Prod.mk.injEq] at h
      obtain ⟨rfl, rfl, rfl⟩ := h
      exact ⟨rfl, r.takeWhile innerF, rfl, fun rest => by unfold tokC; rw [wd_again, k1, k2, k3, k4, k5]; rfl⟩
  | false =>
  rw [k4] at h; simp only [cond_false] at h
  cases k5 : twoL b r with
  | true =>
    rw [k5] at h; simp only [cond_true, Option.some.injEq, Prod.mk.injEq] at h
    obtain ⟨rfl, rfl, rfl⟩ := h
    cases r with
    | nil => simp [twoL] at k5
    | cons c r =>
      refine ⟨rfl, [c], rfl, fun rest => ?_⟩
      have k5' : twoL b ([c] ++ 32 :: rest) = true := k5
      unfold tokC
      rw [k1, k2, k3, k4, k5']; rfl
  | false =>
    rw [k5] at h; simp only [cond_false] at h
    cases k6 : oneL.any (· == b) with
    | false => rw [k6] at h; cases h
    | true =>
      rw [k6] at h; simp only [cond_true, Option.some.injEq, Prod.mk.injEq] at h
      obtain ⟨rfl, rfl, rfl⟩ := h
      refine ⟨rfl, [], rfl, fun rest => ?_⟩
      unfold tokC
      rw [List.nil_append, two_no b 32 rest (.inr rfl), k1, k2, k3, k4, k6]; rfl
theorem tok_47 (r : List UInt8) : tokC 47 r = none := by
  have h1 : twoL 47 r = false := by
    cases r with
    | nil => rfl
    | cons c r => unfold twoL; simp
  unfold tokC
  rw [h1, show letterF 47 = false from by decide, show digitF 47 = false from by decide]; rfl
theorem blk_nil {b : UInt8} {r : List UInt8} (h : blkL (b :: r) = some []) (h47 : b ≠ 47) (r2 : List UInt8) : blkL (b :: r2) = some [] := by
  rw [blk_cons] at h ⊢
  have e1 : ∀ (x : UInt8) (r : List UInt8), [47, x].isPrefixOf (b :: r) = false := by
    intro x r
    have : ((47 : UInt8) == b) = false := by rw [beq_eq_false_iff_ne]; exact fun h => h47 h.symm
    simp [List.isPrefixOf, this]
  rw [e1, e1]
  cases k : whiteF b with
  | true => rw [k] at h; simp at h
  | false => rfl
/-- a token that can be written and read again -/
def Good (x : Tok) : Prop := ∃ (t : List UInt8), x.text = bal t ∧ ∀ (file : Int) (p : Nat × Nat) (rest : List UInt8) (ts : List Tok), Lex file (32 :: rest) (walkF p (repL x.kind t)) ts → Lex file (repL x.kind t ++ 32 :: rest) p (⟨x.kind, x.text, file, p⟩ :: ts)
theorem lex_good {file : Int} {u : List UInt8} {p : Nat × Nat} {ts : List Tok} (h : Lex file u p ts) : ∀ x ∈ ts, Good x := by
  induction h with
  | nil p => intro x hx; cases hx
  | skip c w h1 h2 ih => exact ih
  | @tok b r p ts kind raw t h1 h2 h3 ih =>
    intro x hx
    rcases List.mem_cons.1 hx with rfl | hx
    · obtain ⟨g1, r', g2, g3⟩ := tok_again h2
      have h47 : b ≠ 47 := by
        rintro rfl
        rw [tok_47] at h2; cases h2
      refine ⟨t, rfl, fun file p rest ts hts => ?_⟩
      simp only at hts ⊢
      rw [← g1, g2] at hts
      rw [← g1, g2, List.cons_append]
      refine Lex.tok (blk_nil h1 h47 _) (g3 rest) ?_
      rw [g2, ← List.cons_append, List.drop_left]
      exact hts
    · exact ih x hx
def blanksL : List (List UInt8) := [[32], [9, 10], [47, 47, 32, 120, 32, 34, 10], [47, 42, 32, 125, 32, 42, 47], [32, 47, 42, 42, 42, 47, 32], [13, 10, 10]]
theorem lex_sp {file : Int} {rest : List UInt8} {p : Nat × Nat} {ts : List Tok} (b : UInt8) (hb : whiteF b = true) (h : Lex file rest (walkF p [b]) ts) : Lex file (b :: rest) p ts := .skip b [] (skip_white rest hb) h
theorem lex_blank {file : Int} {rest : List UInt8} {p : Nat × Nat} {ts : List Tok} (w : List UInt8) (hw : w ∈ blanksL) (h : Lex file rest (walkF p (32 :: w)) ts) : Lex file (32 :: (w ++ rest)) p ts := by
  refine lex_sp 32 (by decide) ?_
  have h : Lex file rest (walkF (walkF p [32]) w) ts := h
  generalize walkF p [32] = p at *
  simp only [blanksL, List.mem_cons, List.not_mem_nil, or_false] at hw
  rcases hw with rfl | rfl | rfl | rfl | rfl | rfl
  · exact lex_sp 32 (by decide) h
  · exact lex_sp 9 (by decide) (lex_sp 10 (by decide) h)
  · refine .skip 47 [47, 32, 120, 32, 34] rfl ?_
    exact lex_sp 10 (by decide) h
  · exact .skip 47 [42, 32, 125, 32, 42, 47] rfl h
  · refine lex_sp 32 (by decide) ?_
    refine .skip 47 [42, 42, 42, 47] rfl ?_
    exact lex_sp 32 (by decide) h
  · exact lex_sp 13 (by decide) (lex_sp 10 (by decide) (lex_sp 10 (by decide) h))
/-- tokens with blanks between them -/
def padL : List (Int × List UInt8) → List (List UInt8) → List UInt8
  | [], w :: _ => 32 :: w
  | x :: l, w :: ws => 32 :: (w ++ (repL x.1 x.2 ++ padL l ws))
  | _, [] => []
def unT (x : Tok) : Int × List UInt8 := (x.kind, x.text.data.toList)
def sameT (file : Int) (x y : Tok) : Prop := x.kind = y.kind ∧ x.text = y.text ∧ x.file = file
theorem padL_head (l : List (Int × List UInt8)) (ws : List (List UInt8)) (h : l.length < ws.length) : ∃ r, padL l ws = 32 :: r := by
  cases ws with
  | nil => simp at h
  | cons w ws => cases l <;> exact ⟨_, rfl⟩
theorem pad_lex (file : Int) : ∀ (l : List Tok) (ws : List (List UInt8)) (p : Nat × Nat), (∀ x ∈ l, Good x) → l.length < ws.length → (∀ w ∈ ws, w ∈ blanksL) → ∃ ts, Lex file (padL (l.map unT) ws) p ts ∧ ts.length = l.length ∧ ∀ (i : Nat) (x y : Tok), ts[i]? = some x → l[i]? = some y → sameT file x y
  | _, [], p, _, h, _ => by simp at h
  | [], w :: ws, p, _, _, hw => by
    refine ⟨[], ?_, rfl, fun i x y h => by simp at h⟩
    have := lex_blank (file := file) (rest := []) (p := p) (ts := []) w (hw w (by simp)) (.nil _)
    rw [List.append_nil] at this
    exact this
  | x :: l, w :: ws, p, hg, hl, hw => by
    obtain ⟨t, h1, h2⟩ := hg x (by simp)
    simp only [List.length_cons] at hl
    obtain ⟨ts, g1, g2, g3⟩ := pad_lex file l ws (walkF (walkF p (32 :: w)) (repL x.kind t)) (fun y hy => hg y (by simp [hy])) (by omega) (fun v hv => hw v (by simp [hv]))
    obtain ⟨r, hr⟩ := padL_head (l.map unT) ws (by rw [List.length_map]; omega)
    rw [hr] at g1
    have h3 := h2 file (walkF p (32 :: w)) r ts g1
    refine ⟨⟨x.kind, x.text, file, walkF p (32 :: w)⟩ :: ts, ?_, by simp [g2], ?_⟩
    · show Lex file (32 :: (w ++ (repL x.kind x.text.data.toList ++ padL (l.map unT) ws))) p _
      rw [hr, h1, bal_list]
      rw [h1] at h3
      exact lex_blank w (hw w (by simp)) h3
    · intro i a b ha hb
      cases i with
      | zero =>
        simp only [List.getElem?_cons_zero, Option.some.injEq] at ha hb
        subst ha; subst hb
        exact ⟨rfl, rfl, rfl⟩
      | succ i => exact g3 i a b (by simpa using ha) (by simpa using hb)
end Go.Proofs.Ytkjlmgfmedehiaa
