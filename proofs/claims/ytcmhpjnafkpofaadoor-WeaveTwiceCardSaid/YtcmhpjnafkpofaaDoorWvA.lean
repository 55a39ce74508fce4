/- wv1 wv2, as one text. -/
import Derived.Test.YtcmhpjnafkpofaaDoorFlC
import Derived.Test.YtcmhpjnafkpofaaDoorRkE
set_option linter.unusedVariables false
set_option linter.unusedSimpArgs false
/- Files woven together: what it means. -/
namespace Go.Proofs.YtcmhpjnafkpofaaDoor
open Go Go.Am Go.Proofs
set_option maxRecDepth 10000
set_option maxHeartbeats 4000000
set_option linter.unusedVariables false
set_option linter.unusedSimpArgs false
def incB : ByteArray := ⟨#[35, 105, 110, 99, 108, 117, 100, 101]⟩
def isInc (x : Tok) : Bool := x.kind == 5 && x.text == incB
structure Flt where
  err : Int
  file : Int
  at_ : Nat × Nat
def Flt.row (f : Flt) : List D := [.sc (.int .i64 f.err), .sc (.int .i64 f.file), .sc (.complex .f64 (F f.at_.1) (F f.at_.2))]
def flt0 : Flt := ⟨0, 0, (0, 0)⟩
/-- the weaver -/
structure Ws where
  stack : List Int
  ep : Nat
  cnt : Int
  out : List Tok
/-- which file is included from a path p, by the token y -/
def tgF (L : List File) (p : ByteArray) (stack : List Int) (cnt : Int) (y : Tok) : Int × Int :=
  bif !(y.kind == 4) then (-1, 3) else
  bif !(joinA p y.text).2 then (-1, 4) else
  bif !(findA L (joinA p y.text).1).2 then (-1, 4) else
  bif stack.contains (findA L (joinA p y.text).1).1 then (-1, 5) else
  bif decide ((stack.length : Int) ≥ 8) then (-1, 6) else
  bif decide (cnt ≥ 1000) then (-1, 9) else ((findA L (joinA p y.text).1).1, 0)
def outW (w : Ws) (x : Tok) : Ws := ⟨w.stack, w.ep, w.cnt, w.out ++ [x]⟩
def cutW (w : Ws) : Ws := ⟨w.stack.dropLast, w.ep + 1, w.cnt, w.out⟩
def loopW (L : List File) (p : ByteArray) (rec : Int → Ws → Flt × Ws) : List Tok → Ws → Flt × Ws
  | [], w => (flt0, cutW w)
  | [x], w => bif !isInc x then (flt0, cutW (outW w x)) else (⟨3, x.file, x.at_⟩, w)
  | x :: y :: r, w => bif !isInc x then loopW L p rec (y :: r) (outW w x) else
    bif !((tgF L p w.stack w.cnt y).2 == 0) then (⟨(tgF L p w.stack w.cnt y).2, x.file, x.at_⟩, w) else
    bif !((rec (tgF L p w.stack w.cnt y).1 ⟨w.stack, w.ep, w.cnt + 1, w.out⟩).1.err == 0) then rec (tgF L p w.stack w.cnt y).1 ⟨w.stack, w.ep, w.cnt + 1, w.out⟩
    else loopW L p rec r (rec (tgF L p w.stack w.cnt y).1 ⟨w.stack, w.ep, w.cnt + 1, w.out⟩).2
def lexA (n : Int) (s : ByteArray) : Except (Nat × Nat) (List Tok) := lexL n (s.size + 1) s.data.toList (1, 1) []
def fileW (L : List File) : Nat → Int → Ws → Flt × Ws
  | 0, n, w => (⟨3, 0, (0, 0)⟩, w)
  | g + 1, n, w => match L[n.toNat]? with
    | none => (⟨3, 0, (0, 0)⟩, w)
    | some x => match lexA n x.text with
      | .error q => (⟨3, n, q⟩, w)
      | .ok l => loopW L x.path (fileW L g) l ⟨w.stack ++ [n], w.ep, w.cnt, w.out⟩
/-! how much -/
theorem tg_ok {L : List File} {p : ByteArray} {stack : List Int} {cnt : Int} {y : Tok} (h : ((tgF L p stack cnt y).2 == 0) = true) : stack.length < 8 ∧ cnt < 1000 ∧ ∃ k : Nat, (tgF L p stack cnt y).1 = k ∧ k < L.length := by
  unfold tgF at h ⊢
  cases h1 : !(y.kind == 4) with
  | true => rw [h1] at h; cases h
  | false =>
  cases h2 : !(joinA p y.text).2 with
  | true => rw [h1, h2] at h; cases h
  | false =>
  cases h3 : !(findA L (joinA p y.text).1).2 with
  | true => rw [h1, h2, h3] at h; cases h
  | false =>
  cases h4 : stack.contains (findA L (joinA p y.text).1).1 with
  | true => rw [h1, h2, h3, h4] at h; cases h
  | false =>
  cases h5 : decide ((stack.length : Int) ≥ 8) with
  | true => rw [h1, h2, h3, h4, h5] at h; cases h
  | false =>
  cases h6 : decide (cnt ≥ 1000) with
  | true => rw [h1, h2, h3, h4, h5, h6] at h; cases h
  | false =>
  simp only [cond_false]
  refine ⟨by have := of_decide_eq_false h5; omega, by have := of_decide_eq_false h6; omega, ?_⟩
  rw [Bool.not_eq_false'] at h3
  generalize (joinA p y.text).1 = z at *
  unfold findA findW at h3 ⊢
  cases h7 : (cleanA z).2 with
  | false => rw [h7] at h3; cases h3
  | true =>
    rw [h7] at h3
    simp only [cond_true] at h3 ⊢
    cases h8 : decide (ixP (hitP (cleanA z).1) L 0 ≥ 0) with
    | false => rw [h8] at h3; cases h3
    | true =>
      have h9 := of_decide_eq_true h8
      simp only [cond_true]
      rcases ixP_ge (hitP (cleanA z).1) L 0 (by omega) with h | h
      · omega
      · exact ⟨(ixP (hitP (cleanA z).1) L 0).toNat, by omega, by omega⟩
/-- files that are short enough -/
def shortF (L : List File) : Prop := ∀ x ∈ L, x.path.size ≤ 60 ∧ x.text.size ≤ 650
def roomW (R : Nat) (w : Ws) : Prop := (w.out.length : Int) + R ≤ 651 * (w.cnt + 1) ∧ 0 ≤ w.cnt ∧ w.cnt ≤ 1000
theorem lexA_len {n : Int} {s : ByteArray} {l : List Tok} (h : lexA n s = .ok l) : l.length ≤ s.size := by
  have := lex_len n (s.size + 1) s.data.toList (1, 1) [] l h
  rw [List.length_nil, Nat.zero_add] at this
  exact this
theorem loop_room (L : List File) (p : ByteArray) (rec : Int → Ws → Flt × Ws)
    (hrec : ∀ n w R, roomW (R + 651) w → ((rec n w).1.err == 0) = true → roomW R (rec n w).2 ∧ (rec n w).2.stack = w.stack) :
    ∀ (l : List Tok) (w : Ws) (R : Nat), roomW (R + l.length) w → ((loopW L p rec l w).1.err == 0) = true → roomW R (loopW L p rec l w).2 ∧ (loopW L p rec l w).2.stack = w.stack.dropLast
  | [], w, R, h, _ => ⟨h, rfl⟩
  | [x], w, R, h, he => by
    rw [loopW] at he ⊢
    cases hx : isInc x with
    | true => rw [hx] at he; cases he
    | false =>
      refine ⟨⟨?_, h.2⟩, rfl⟩
      have h1 := h.1
      have hx1 : ([x] : List Tok).length = 1 := rfl
      rw [hx1] at h1
      show ((w.out ++ [x]).length : Int) + R ≤ 651 * (w.cnt + 1)
      rw [List.length_append, hx1]
      omega
  | x :: y :: r, w, R, h, he => by
    rw [loopW] at he ⊢
    have h1 := h.1
    have h2 := h.2
    simp only [List.length_cons] at h1
    cases hx : isInc x with
    | false =>
      rw [hx] at he
      simp only [Bool.not_false, cond_true] at he ⊢
      refine loop_room L p rec hrec (y :: r) (outW w x) R ⟨?_, h2⟩ he
      have hx1 : ([x] : List Tok).length = 1 := rfl
      show ((w.out ++ [x]).length : Int) + ((R + (y :: r).length : Nat) : Int) ≤ 651 * (w.cnt + 1)
      rw [List.length_append, hx1, List.length_cons]
      omega
    | true =>
      rw [hx] at he
      simp only [Bool.not_true, cond_false] at he ⊢
      generalize htg : tgF L p w.stack w.cnt y = q at *
      cases hq : q.2 == 0 with
      | false => rw [hq] at he; simp only [Bool.not_false, cond_true] at he; rw [show (q.2 == 0) = true from he] at hq; cases hq
      | true =>
        obtain ⟨_, hc, _⟩ := tg_ok (htg ▸ hq : ((tgF L p w.stack w.cnt y).2 == 0) = true)
        rw [hq] at he
        simp only [Bool.not_true, cond_false] at he ⊢
        have hr := hrec q.1 ⟨w.stack, w.ep, w.cnt + 1, w.out⟩ (R + r.length) (by
          refine ⟨?_, ?_⟩
          · show (w.out.length : Int) + ((R + r.length + 651 : Nat) : Int) ≤ 651 * (w.cnt + 1 + 1)
            omega
          · show 0 ≤ w.cnt + 1 ∧ w.cnt + 1 ≤ 1000
            omega)
        generalize rec q.1 ⟨w.stack, w.ep, w.cnt + 1, w.out⟩ = z at *
        cases hz : z.1.err == 0 with
        | false => rw [hz] at he; simp only [Bool.not_false, cond_true] at he; rw [hz] at he; cases he
        | true =>
          rw [hz] at he
          simp only [Bool.not_true, cond_false] at he ⊢
          obtain ⟨r1, r2⟩ := hr hz
          have := loop_room L p rec hrec r z.2 R r1 he
          rw [r2] at this
          exact this
theorem file_room (L : List File) (hL : shortF L) : ∀ (g : Nat) (n : Int) (w : Ws) (R : Nat), roomW (R + 651) w → ((fileW L g n w).1.err == 0) = true → roomW R (fileW L g n w).2 ∧ (fileW L g n w).2.stack = w.stack
  | 0, n, w, R, _, he => by cases he
  | g + 1, n, w, R, h, he => by
    rw [fileW] at he ⊢
    cases hx : L[n.toNat]? with
    | none => rw [hx] at he; cases he
    | some x =>
      rw [hx] at he
      simp only at he ⊢
      cases hl : lexA n x.text with
      | error q => rw [hl] at he; cases he
      | ok l =>
        rw [hl] at he
        simp only at he ⊢
        have h1 := lexA_len hl
        have h2 := (hL x (List.mem_of_getElem? hx)).2
        have := loop_room L x.path (fileW L g) (fun n w R => file_room L hL g n w R) l ⟨w.stack ++ [n], w.ep, w.cnt, w.out⟩ R (by
          refine ⟨?_, h.2⟩
          have := h.1
          show (w.out.length : Int) + ((R + l.length : Nat) : Int) ≤ 651 * (w.cnt + 1)
          omega) he
        rw [show (⟨w.stack ++ [n], w.ep, w.cnt, w.out⟩ : Ws).stack.dropLast = w.stack from List.dropLast_concat] at this
        exact this
/-! tokens bear their file's number; the weaver's state, shifted -/
theorem lex_file (file : Int) : ∀ (k : Nat) (u : List UInt8) (p : Nat × Nat) (l l' : List Tok), lexL file k u p l = .ok l' → (∀ x ∈ l, x.file = file) → ∀ x ∈ l', x.file = file
  | 0, u, p, l, l', h, hl => by simp only [lexL, Except.ok.injEq] at h; subst h; exact hl
  | k + 1, [], p, l, l', h, hl => by simp only [lexL, Except.ok.injEq] at h; subst h; exact hl
  | k + 1, b :: r, p, l, l', h, hl => by
    simp only [lexL] at h
    cases hs : blkL (b :: r) with
    | none => rw [hs] at h; cases h
    | some w =>
      rw [hs] at h
      cases w with
      | cons c w => exact lex_file file k _ _ _ _ h hl
      | nil =>
        simp only at h
        cases ht : tokC b r with
        | none => rw [ht] at h; cases h
        | some q =>
          obtain ⟨kind, raw, t⟩ := q
          rw [ht] at h
          refine lex_file file k _ _ _ _ h fun x hx => ?_
          rcases List.mem_append.1 hx with hx | hx
          · exact hl x hx
          · rw [List.mem_singleton] at hx; rw [hx]
theorem lexA_file {n : Int} {s : ByteArray} {l : List Tok} (h : lexA n s = .ok l) : ∀ x ∈ l, x.file = n := lex_file n _ _ _ _ _ h fun x hx => by cases hx
def shW (e : Nat) (o : List Tok) (w : Ws) : Ws := ⟨w.stack, e + w.ep, w.cnt, o ++ w.out⟩
theorem loop_shift (L : List File) (p : ByteArray) (rec : Int → Ws → Flt × Ws) (e : Nat) (o : List Tok)
    (hrec : ∀ n w, rec n (shW e o w) = ((rec n w).1, shW e o (rec n w).2)) :
    ∀ (l : List Tok) (w : Ws), loopW L p rec l (shW e o w) = ((loopW L p rec l w).1, shW e o (loopW L p rec l w).2)
  | [], w => by
    rw [loopW, loopW]
    show (flt0, (⟨w.stack.dropLast, e + w.ep + 1, w.cnt, o ++ w.out⟩ : Ws)) = (flt0, ⟨w.stack.dropLast, e + (w.ep + 1), w.cnt, o ++ w.out⟩)
    rw [Nat.add_assoc]
  | [x], w => by
    rw [loopW, loopW]
    cases isInc x with
    | true => rfl
    | false =>
      show (flt0, (⟨w.stack.dropLast, e + w.ep + 1, w.cnt, (o ++ w.out) ++ [x]⟩ : Ws)) = (flt0, ⟨w.stack.dropLast, e + (w.ep + 1), w.cnt, o ++ (w.out ++ [x])⟩)
      rw [Nat.add_assoc, List.append_assoc]
  | x :: y :: r, w => by
    rw [loopW, loopW]
    cases isInc x with
    | false =>
      simp only [Bool.not_false, cond_true]
      have : outW (shW e o w) x = shW e o (outW w x) := by
        show (⟨w.stack, e + w.ep, w.cnt, (o ++ w.out) ++ [x]⟩ : Ws) = ⟨w.stack, e + w.ep, w.cnt, o ++ (w.out ++ [x])⟩
        rw [List.append_assoc]
      rw [this]
      exact loop_shift L p rec e o hrec (y :: r) (outW w x)
    | true =>
      simp only [Bool.not_true, cond_false]
      change (bif !((tgF L p w.stack w.cnt y).2 == 0) then ((⟨(tgF L p w.stack w.cnt y).2, x.file, x.at_⟩ : Flt), shW e o w) else
        bif !((rec (tgF L p w.stack w.cnt y).1 (shW e o ⟨w.stack, w.ep, w.cnt + 1, w.out⟩)).1.err == 0) then rec (tgF L p w.stack w.cnt y).1 (shW e o ⟨w.stack, w.ep, w.cnt + 1, w.out⟩)
        else loopW L p rec r (rec (tgF L p w.stack w.cnt y).1 (shW e o ⟨w.stack, w.ep, w.cnt + 1, w.out⟩)).2) = _
      rw [hrec]
      generalize tgF L p w.stack w.cnt y = q
      cases q.2 == 0 with
      | false => rfl
      | true =>
        simp only [Bool.not_true, cond_false]
        generalize rec q.1 ⟨w.stack, w.ep, w.cnt + 1, w.out⟩ = z
        cases z.1.err == 0 with
        | false => rfl
        | true =>
          simp only [Bool.not_true, cond_false]
          exact loop_shift L p rec e o hrec r z.2
theorem file_shift (L : List File) (e : Nat) (o : List Tok) : ∀ (g : Nat) (n : Int) (w : Ws), fileW L g n (shW e o w) = ((fileW L g n w).1, shW e o (fileW L g n w).2)
  | 0, n, w => rfl
  | g + 1, n, w => by
    rw [fileW, fileW]
    cases L[n.toNat]? with
    | none => rfl
    | some x =>
      simp only
      cases lexA n x.text with
      | error q => rfl
      | ok l => exact loop_shift L x.path (fileW L g) e o (file_shift L e o g) l ⟨w.stack ++ [n], w.ep, w.cnt, w.out⟩
/-! tokens' texts are short -/
theorem tok_short {b : UInt8} {r raw t : List UInt8} {k : Int} (h : tokC b r = some (k, raw, t)) : t.length ≤ raw.length := by
  unfold tokC at h
  cases k1 : letterF b with
  | true => rw [k1] at h; simp only [cond_true, Option.some.injEq, Prod.mk.injEq] at h; obtain ⟨_, rfl, rfl⟩ := h; exact Nat.le_refl _
  | false =>
  rw [k1] at h; simp only [cond_false] at h
  cases k2 : digitF b with
  | true =>
    rw [k2] at h; simp only [cond_true] at h
    cases k3 : numOk (bal (wdL b r)) with
    | true => rw [k3] at h; simp only [cond_true, Option.some.injEq, Prod.mk.injEq] at h; obtain ⟨_, rfl, rfl⟩ := h; exact Nat.le_refl _
    | false => rw [k3] at h; simp at h
  | false =>
  rw [k2] at h; simp only [cond_false] at h
  cases k3 : (b.toNat == 34) with
  | true =>
    rw [k3] at h; simp only [cond_true] at h
    cases hd : r.drop (r.takeWhile notQ).length with
    | nil => rw [hd] at h; simp [strL] at h
    | cons c r2 =>
      rw [hd, str_cons] at h
      cases k4 : (c.toNat == 34) with
      | false => rw [k4] at h; simp at h
      | true =>
        rw [k4] at h; simp only [cond_true, Option.some.injEq, Prod.mk.injEq] at h
        obtain ⟨_, rfl, rfl⟩ := h
        rw [List.length_cons, List.length_append]
        omega
  | false =>
  rw [k3] at h; simp only [cond_false] at h
  cases k4 : (b.toNat == 35) with
  | true =>
    rw [k4] at h; simp only [cond_true] at h
    cases k5 : ((wdL b r == inclL) || (wdL b r == defnL)) with
    | false => rw [k5] at h; simp at h
    | true => rw [k5] at h; simp only [cond_true, Option.some.injEq, Prod.mk.injEq] at h; obtain ⟨_, rfl, rfl⟩ := h; exact Nat.le_refl _
  | false =>
  rw [k4] at h; simp only [cond_false] at h
  cases k5 : twoL b r with
  | true =>
    rw [k5] at h; simp only [cond_true, Option.some.injEq, Prod.mk.injEq] at h
    obtain ⟨_, rfl, rfl⟩ := h
    exact Nat.le_refl _
  | false =>
    rw [k5] at h; simp only [cond_false] at h
    cases k6 : oneL.any (· == b) with
    | false => rw [k6] at h; simp at h
    | true => rw [k6] at h; simp only [cond_true, Option.some.injEq, Prod.mk.injEq] at h; obtain ⟨_, rfl, rfl⟩ := h; exact Nat.le_refl _
theorem tok_text {b : UInt8} {r raw t : List UInt8} {k : Int} (h : tokC b r = some (k, raw, t)) : t.length ≤ 4 * (r.length + 1) + 64 := by
  have h1 := tok_short h
  have h2 := (tok_pre h).1.length_le
  rw [List.length_cons] at h2
  omega
theorem lex_text (file : Int) (B : Nat) : ∀ (k : Nat) (u : List UInt8) (p : Nat × Nat) (l l' : List Tok), u.length ≤ B → lexL file k u p l = .ok l' → (∀ x ∈ l, x.text.size ≤ 4 * B + 64) → ∀ x ∈ l', x.text.size ≤ 4 * B + 64
  | 0, u, p, l, l', _, h, hl => by simp only [lexL, Except.ok.injEq] at h; subst h; exact hl
  | k + 1, [], p, l, l', _, h, hl => by simp only [lexL, Except.ok.injEq] at h; subst h; exact hl
  | k + 1, b :: r, p, l, l', hB, h, hl => by
    simp only [lexL] at h
    cases hs : blkL (b :: r) with
    | none => rw [hs] at h; cases h
    | some w =>
      rw [hs] at h
      cases w with
      | cons c w => exact lex_text file B k _ _ _ _ (by rw [List.length_drop]; omega) h hl
      | nil =>
        simp only at h
        cases ht : tokC b r with
        | none => rw [ht] at h; cases h
        | some q =>
          obtain ⟨kind, raw, t⟩ := q
          rw [ht] at h
          have htx := tok_text ht
          refine lex_text file B k _ _ _ _ (by rw [List.length_drop]; omega) h fun x hx => ?_
          rcases List.mem_append.1 hx with hx | hx
          · exact hl x hx
          · rw [List.mem_singleton] at hx
            rw [hx]
            have : (bal t).size = t.length := rfl
            rw [List.length_cons] at hB
            show (bal t).size ≤ _
            omega
theorem lexA_text {n : Int} {s : ByteArray} {l : List Tok} (h : lexA n s = .ok l) : ∀ x ∈ l, x.text.size ≤ 4 * s.size + 64 := lex_text n s.size _ _ _ _ _ (Nat.le_refl _) h fun x hx => by cases hx
end Go.Proofs.YtcmhpjnafkpofaaDoor
/- The weaver: which file is included. -/
namespace Go.Proofs.YtcmhpjnafkpofaaDoor
open Go Go.Am Go.Proofs
attribute [local irreducible] W WL DL WO RoundEnd
set_option maxRecDepth 10000
set_option maxHeartbeats 4000000
set_option linter.unusedVariables false
set_option linter.unusedSimpArgs false
def introw (n : Int) : List D := [.sc (.int .i64 n)]
def wS (L : List File) (w : Ws) : St := [.var [.d (.list (L.map File.row)), .arr 1 w.ep (w.stack.map introw).length, .d (.sc (.int .i64 w.cnt)), .arr 2 0 (w.out.map Tok.row).length], .arr w.ep true 1 (w.stack.map introw), .arr 0 false 4 (w.out.map Tok.row)]
abbrev stkV (w : Ws) : V := .one (.arr 1 w.ep (w.stack.map introw).length)
theorem idxStk [GVals] (L : List File) (w : Ws) (n : Int) (hl : w.stack.length < 2 ^ 40) : Am.Spec Tryd.prog 81 [stkV w, int .i64 n] (wS L w) (fun v s => v = int .i64 (ixP (n == ·) w.stack 0) ∧ s = wS L w) := by
  generalize hfb : ixP (n == ·) w.stack 0 = fb
  obtain ⟨stk, ep, cnt, out⟩ := w
  dsimp only at hl hfb
  unfold wS stkV
  refine Spec.body (C := cx [] 19) fits (fn := Tryd.f81) Tryd.func81 rfl (by decide) (by decide) (gI ?_)
  repeat' (first | (refine C_r ?_; (conv => whnf); first | refine A_o ?_) | fail)
  refine wLoop [0, 1, 7, 8] 3 (stk.length + 1) ?_
  refine (fun key => key stk [] _ rfl rfl hfb.symm :
    (∀ (rest done : List Int) (j : Int), stk = done ++ rest → j = done.length → fb = ixP (n == ·) rest j →
    WR2 _ _ _ _ _ (rest.length + 1) [(0, .one (.arr 1 ep (stk.map introw).length)), (1, int .i64 n), (7, int .i64 (stk.map introw).length), (8, int .i64 j)] (wS L ⟨stk, ep, cnt, out⟩)) → _) ?_
  intro rest
  induction rest with
  | nil =>
    intro done j h1 hj hr
    have hlen : stk.length = done.length := by rw [h1]; simp
    have q : decide (j < ((stk.map introw).length : Int)) = false := by rw [decide_eq_false_iff_not, List.length_map]; omega
    unfold wS
    refine wR (gI ?_)
    repeat' (first | ((first | refine C_r ?_ | refine O_r ?_); (conv => whnf); first | (refine ⟨fun hb => ?_, fun hb => ?_⟩ <;> try exact no_way) | refine A_o ?_ | refine fR ?_) | fail)
    exact ⟨by rw [hr]; rfl, rfl⟩
  | cons x rest ih =>
    intro done j h1 hj hr
    have hlen : stk.length = done.length + (rest.length + 1) := by rw [h1]; simp
    have q : decide (j < ((stk.map introw).length : Int)) = true := by rw [decide_eq_true_eq, List.length_map]; omega
    have hat : stk[j.toNat]? = some x := by rw [h1, hj]; simp
    have g2 := at_of (f := introw) hat
    rw [ixP] at hr
    have e7 : IntKind.i64.wrap (j + 1) = j + 1 := by rw [wrap_ok (by omega) (by omega)]
    have g := fun h => ih (done ++ [x]) (j + 1) (by rw [h1]; simp) (by rw [hj]; simp) h
    clear ih
    unfold wS at g ⊢
    refine wR (gI ?_)
    repeat' (first | ((first | refine C_r ?_ | refine O_r ?_); (conv => whnf); first | (refine ⟨fun hb => ?_, fun hb => ?_⟩ <;> try exact no_way) | refine B_o ?_ | refine R_o ?_ | refine fR ?_) | refine Xw_l ?_ | refine Le_l ?_ | fail)
    · rw [hb] at hr
      exact ⟨by rw [hr]; rfl, rfl⟩
    · rw [hb] at hr
      rw [e7]; exact rE (g hr)
theorem ixP_any {α : Type} (p : α → Bool) : ∀ (l : List α) (j : Int), 0 ≤ j → decide (ixP p l j ≥ 0) = l.any p
  | [], j, _ => rfl
  | x :: r, j, h => by
    rw [ixP, List.any_cons]
    cases p x with
    | true => simp only [cond_true, Bool.true_or, decide_eq_true_eq]; exact h
    | false => simp only [cond_false, Bool.false_or]; exact ixP_any p r (j + 1) (by omega)
theorem hasStk [GVals] (L : List File) (w : Ws) (n : Int) (hl : w.stack.length < 2 ^ 40) : Am.Spec Tryd.prog 61 [stkV w, int .i64 n] (wS L w) (fun v s => v = Am.bool (w.stack.contains n) ∧ s = wS L w) := by
  have c1 := idxStk L w n hl
  have h1 := ixP_any (n == ·) w.stack 0 (Int.le_refl 0)
  have h2 : w.stack.any (n == ·) = w.stack.contains n := by
    rw [List.contains_eq_any_beq]
  rw [h2] at h1
  generalize ixP (n == ·) w.stack 0 = i at *
  generalize w.stack.contains n = b at *
  obtain ⟨stk, ep, cnt, out⟩ := w
  unfold stkV wS at *
  cases b with
  | true =>
    refine Spec.body (C := cx [] 9) fits (fn := Tryd.f61) Tryd.func61 rfl (by decide) (by decide) (gI ?_)
    repeat' (first | ((first | refine C_r ?_ | refine O_r ?_); (conv => whnf); first | (refine ⟨fun hb => ?_, fun hb => ?_⟩ <;> try exact no_way) | refine B_o ?_ | refine fR ?_) | refine fun k => WL.crpU [0, 1, 2] (wS L ⟨stk, ep, cnt, out⟩) _ _ c1 (oW ?_ _) | fail)
    all_goals first | exact ⟨rfl, rfl⟩ | trace_state
  | false =>
    refine Spec.body (C := cx [] 9) fits (fn := Tryd.f61) Tryd.func61 rfl (by decide) (by decide) (gI ?_)
    repeat' (first | ((first | refine C_r ?_ | refine O_r ?_); (conv => whnf); first | (refine ⟨fun hb => ?_, fun hb => ?_⟩ <;> try exact no_way) | refine B_o ?_ | refine fR ?_) | refine fun k => WL.crpU [0, 1, 2] (wS L ⟨stk, ep, cnt, out⟩) _ _ c1 (oW ?_ _) | fail)
    all_goals first | exact ⟨rfl, rfl⟩ | trace_state
theorem clean_le (s : ByteArray) : (cleanA s).1.size ≤ s.size + 1 := by
  unfold cleanA
  cases hc : cleanW (pieces s) [] with
  | none => exact Nat.zero_le _
  | some l =>
    cases l with
    | nil => exact Nat.zero_le _
    | cons a r =>
      have h1 := wt_clean _ _ _ hc
      have h2 := join_size (a :: r)
      rw [wt_pieces, show wt [] = 0 from rfl] at h1
      show (joinB (a :: r)).size ≤ _
      omega
theorem join_le (p q : ByteArray) : (joinA p q).1.size ≤ p.size + q.size + 1 := by
  unfold joinA
  cases Lib.hasPrefix q.data.toList [47] with
  | true => have := clean_le q; simp only [cond_true]; omega
  | false =>
    have h1 := clean_le (dirOf p ++ q)
    have h2 := dir_size p
    rw [ByteArray.size_append] at h1
    simp only [cond_false]; omega
abbrev teV (p : Int × Int) : V := .tup [.one (.d (.sc (.int .i64 p.1))), .one (.d (.sc (.int .i64 p.2)))]
def cntW (w : Ws) : Ws := ⟨w.stack, w.ep, w.cnt + 1, w.out⟩
theorem targetNo [GVals] (L : List File) (w : Ws) (x : Tok) : Am.Spec Tryd.prog 45 [.one (.ptr 0 0), lst Tok.row [x]] (wS L w) (fun v s => v = teV (-1, 3) ∧ s = wS L w) := by
  obtain ⟨stk, ep, cnt, out⟩ := w
  unfold wS
  refine Spec.body (C := cx [] 88) fits (fn := Tryd.f45) Tryd.func45 rfl (by decide) (by decide) (gI ?_)
  repeat' (first | ((first | refine C_r ?_ | refine O_r ?_); (conv => whnf); first | (refine ⟨fun hb => ?_, fun hb => ?_⟩ <;> try exact no_way) | refine fR ?_) | fail)
  all_goals first | exact ⟨rfl, rfl⟩ | trace_state
theorem targetR [GVals] (L : List File) (w : Ws) (x y : Tok) (r : List Tok) (st : List Int) (n : Nat) (f : File) (hst : w.stack = st ++ [(n : Int)]) (hn : L[n]? = some f) (hs : w.stack.length < 2 ^ 40) (hc : 0 ≤ w.cnt ∧ w.cnt < 2 ^ 40)
    (hL : L.length < 2 ^ 40) (hp : ∀ x ∈ L, x.path.size < 2 ^ 30) (hy : y.text.size < 2 ^ 30 - 64) (hr : r.length < 2 ^ 40) :
    Am.Spec Tryd.prog 45 [.one (.ptr 0 0), lst Tok.row (x :: y :: r)] (wS L w) (fun v s => v = teV (tgF L f.path w.stack w.cnt y) ∧ s = wS L (bif (tgF L f.path w.stack w.cnt y).2 == 0 then cntW w else w)) := by
  have hfp := hp f (List.mem_of_getElem? hn)
  have hjl := join_le f.path y.text
  have c1 := filesJoinR f.path y.text (by omega) (by omega)
  have c2 := findR L (joinA f.path y.text).1 hL (fun x hx => by have := hp x hx; omega) (by omega)
  have c3 := hasStk L w (findA L (joinA f.path y.text).1).1 hs
  have e1 : IntKind.i64.wrap (w.cnt + 1) = w.cnt + 1 := wrap_ok (by omega) (by omega)
  unfold tgF
  generalize joinA f.path y.text = q1 at *
  generalize findA L q1.1 = q2 at *
  generalize w.stack.contains q2.1 = b at *
  have hsl : w.stack.length = st.length + 1 := by rw [hst]; simp
  have e2 : IntKind.i64.wrap (((w.stack.map introw).length : Int) - 1) = ((st.length : Nat) : Int) := by rw [List.length_map, wrap_ok (by omega) (by omega)]; omega
  have hlast : w.stack[st.length]? = some (n : Int) := by rw [hst]; simp
  have g1 : (w.stack.map introw)[(IntKind.i64.wrap (((w.stack.map introw).length : Int) - 1)).toNat]? = some (introw n) := by
    rw [e2, Int.toNat_natCast, List.getElem?_map, hlast]; rfl
  have g0 : 0 ≤ IntKind.i64.wrap (((w.stack.map introw).length : Int) - 1) := by rw [e2]; omega
  have g2 := at_of (f := File.row) (show L[((n : Nat) : Int).toNat]? = some f from hn)
  have g3 : ((x :: y :: r).map Tok.row)[((1 : Int)).toNat]? = some (Tok.row y) := rfl
  have q1l : decide ((((x :: y :: r).map Tok.row).length : Int) < 2) = false := by rw [decide_eq_false_iff_not, List.length_map, List.length_cons, List.length_cons]; omega
  have hz : ((w.stack.map introw).length : Int) = (w.stack.length : Int) := by rw [List.length_map]
  clear hst hsl hlast hn
  obtain ⟨stk, ep, cnt, out⟩ := w
  dsimp only at *
  unfold stkV wS cntW at *
  generalize hrows : (x :: y :: r).map Tok.row = rows at *
  obtain ⟨z, ok1⟩ := q1
  obtain ⟨i, ok2⟩ := q2
  dsimp only at *
  cases k1 : y.kind == 4 with
  | false =>
    have k1n : (!(y.kind == 4)) = true := by rw [k1]; rfl
    refine Spec.body (C := cx [] 88) fits (fn := Tryd.f45) Tryd.func45 rfl (by decide) (by decide) (gI ?_)
    repeat' (first | ((first | refine C_r ?_ | refine O_r ?_); (conv => whnf); first | (refine ⟨fun hb => ?_, fun hb => ?_⟩ <;> try exact no_way) | refine B_o ?_ | refine fR ?_) | refine Q_l ?_ | fail)
    all_goals first | exact ⟨rfl, rfl⟩ | (rw [e1]; exact ⟨rfl, rfl⟩) | trace_state
  | true =>
  have k1n : (!(y.kind == 4)) = false := by rw [k1]; rfl
  cases ok1 with
  | false =>
    refine Spec.body (C := cx [] 88) fits (fn := Tryd.f45) Tryd.func45 rfl (by decide) (by decide) (gI ?_)
    repeat' (first | ((first | refine C_r ?_ | refine O_r ?_ | refine R_r ?_); (conv => whnf); first | (refine ⟨fun hb => ?_, fun hb => ?_⟩ <;> try exact no_way) | refine B_o ?_ | refine C_o ?_ | refine fR ?_) | refine Q_l ?_ | refine C_d (c1) ?_ | refine Q_d ?_ | refine X_d ?_ | refine Xw_d ?_ | refine Le_d ?_ | fail)
    all_goals first | exact ⟨rfl, rfl⟩ | (rw [e1]; exact ⟨rfl, rfl⟩) | trace_state
  | true =>
  cases ok2 with
  | false =>
    refine Spec.body (C := cx [] 88) fits (fn := Tryd.f45) Tryd.func45 rfl (by decide) (by decide) (gI ?_)
    repeat' (first | ((first | refine C_r ?_ | refine O_r ?_ | refine R_r ?_); (conv => whnf); first | (refine ⟨fun hb => ?_, fun hb => ?_⟩ <;> try exact no_way) | refine B_o ?_ | refine C_o ?_ | refine fR ?_) | refine C_l (c2) ?_ | refine Q_l ?_ | refine C_d (c1) ?_ | refine Q_d ?_ | refine X_d ?_ | refine Xw_d ?_ | refine Le_d ?_ | fail)
    all_goals first | exact ⟨rfl, rfl⟩ | (rw [e1]; exact ⟨rfl, rfl⟩) | trace_state
  | true =>
  cases b with
  | true =>
    refine Spec.body (C := cx [] 88) fits (fn := Tryd.f45) Tryd.func45 rfl (by decide) (by decide) (gI ?_)
    repeat' (first | ((first | refine C_r ?_ | refine O_r ?_ | refine R_r ?_); (conv => whnf); first | (refine ⟨fun hb => ?_, fun hb => ?_⟩ <;> try exact no_way) | refine B_o ?_ | refine C_o ?_ | refine fR ?_) | refine C_l (c2) ?_ | refine fun k => WL.crpU [0, 1, 2] (wS L ⟨stk, ep, cnt, out⟩) _ _ c3 (oW ?_ _) | refine Q_l ?_ | refine C_d (c1) ?_ | refine Q_d ?_ | refine X_d ?_ | refine Xw_d ?_ | refine Le_d ?_ | fail)
    all_goals first | exact ⟨rfl, rfl⟩ | (rw [e1]; exact ⟨rfl, rfl⟩) | trace_state
  | false =>
  cases k5 : decide ((stk.length : Int) ≥ 8) with
  | true =>
    have k5n : decide (((stk.map introw).length : Int) ≥ 8) = true := by rw [hz]; exact k5
    refine Spec.body (C := cx [] 88) fits (fn := Tryd.f45) Tryd.func45 rfl (by decide) (by decide) (gI ?_)
    repeat' (first | ((first | refine C_r ?_ | refine O_r ?_ | refine R_r ?_); (conv => whnf); first | (refine ⟨fun hb => ?_, fun hb => ?_⟩ <;> try exact no_way) | refine B_o ?_ | refine C_o ?_ | refine fR ?_) | refine C_l (c2) ?_ | refine fun k => WL.crpU [0, 1, 2] (wS L ⟨stk, ep, cnt, out⟩) _ _ c3 (oW ?_ _) | refine Q_l ?_ | refine C_d (c1) ?_ | refine Q_d ?_ | refine X_d ?_ | refine Xw_d ?_ | refine Le_d ?_ | fail)
    all_goals first | exact ⟨rfl, rfl⟩ | (rw [e1]; exact ⟨rfl, rfl⟩) | trace_state
  | false =>
  have k5n : decide (((stk.map introw).length : Int) ≥ 8) = false := by rw [hz]; exact k5
  cases k6 : decide (cnt ≥ 1000) with
  | true =>
    refine Spec.body (C := cx [] 88) fits (fn := Tryd.f45) Tryd.func45 rfl (by decide) (by decide) (gI ?_)
    repeat' (first | ((first | refine C_r ?_ | refine O_r ?_ | refine R_r ?_); (conv => whnf); first | (refine ⟨fun hb => ?_, fun hb => ?_⟩ <;> try exact no_way) | refine B_o ?_ | refine C_o ?_ | refine fR ?_) | refine C_l (c2) ?_ | refine fun k => WL.crpU [0, 1, 2] (wS L ⟨stk, ep, cnt, out⟩) _ _ c3 (oW ?_ _) | refine Q_l ?_ | refine C_d (c1) ?_ | refine Q_d ?_ | refine X_d ?_ | refine Xw_d ?_ | refine Le_d ?_ | fail)
    all_goals first | exact ⟨rfl, rfl⟩ | (rw [e1]; exact ⟨rfl, rfl⟩) | trace_state
  | false =>
  refine Spec.body (C := cx [] 88) fits (fn := Tryd.f45) Tryd.func45 rfl (by decide) (by decide) (gI ?_)
  repeat' (first | ((first | refine C_r ?_ | refine O_r ?_ | refine R_r ?_); (conv => whnf); first | (refine ⟨fun hb => ?_, fun hb => ?_⟩ <;> try exact no_way) | refine B_o ?_ | refine C_o ?_ | refine fR ?_) | refine C_l (c2) ?_ | refine fun k => WL.crpU [0, 1, 2] (wS L ⟨stk, ep, cnt, out⟩) _ _ c3 (oW ?_ _) | refine Q_l ?_ | refine C_d (c1) ?_ | refine Q_d ?_ | refine X_d ?_ | refine Xw_d ?_ | refine Le_d ?_ | fail)
  all_goals first | exact ⟨rfl, rfl⟩ | (rw [e1]; exact ⟨rfl, rfl⟩) | trace_state
end Go.Proofs.YtcmhpjnafkpofaaDoor
