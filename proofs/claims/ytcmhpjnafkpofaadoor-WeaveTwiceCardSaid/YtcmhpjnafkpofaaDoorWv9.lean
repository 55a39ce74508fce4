/- Weaving: texts that include nothing; a text that includes another. -/
import Derived.Test.YtcmhpjnafkpofaaDoorWvC
import Derived.Test.YtcmhpjnafkpofaaDoorRk17
import Derived.KernelRfl
set_option linter.unusedVariables false
set_option linter.unusedSimpArgs false
namespace Go.Proofs.YtcmhpjnafkpofaaDoor
open Go Go.Am Go.Proofs
set_option maxRecDepth 10000
set_option maxHeartbeats 4000000
set_option linter.unusedVariables false
set_option linter.unusedSimpArgs false
theorem loop_pre (L : List File) (p : ByteArray) (rec : Int → Ws → Flt × Ws) : ∀ (a r : List Tok) (w : Ws), (∀ x ∈ a, isInc x = false) → loopW L p rec (a ++ r) w = loopW L p rec r ⟨w.stack, w.ep, w.cnt, w.out ++ a⟩
  | [], r, w, _ => by rw [List.nil_append, List.append_nil]
  | x :: a, r, w, h => by
    rw [List.cons_append, loop_no (h x (List.mem_cons_self ..)), loop_pre L p rec a r (outW w x) fun y hy => h y (List.mem_cons_of_mem _ hy)]
    show loopW L p rec r ⟨w.stack, w.ep, w.cnt, (w.out ++ [x]) ++ a⟩ = _
    rw [List.append_assoc]; rfl
theorem loop_all (L : List File) (p : ByteArray) (rec : Int → Ws → Flt × Ws) (a : List Tok) (w : Ws) (h : ∀ x ∈ a, isInc x = false) : loopW L p rec a w = (flt0, ⟨w.stack.dropLast, w.ep + 1, w.cnt, w.out ++ a⟩) := by
  have := loop_pre L p rec a [] w h
  rw [List.append_nil] at this
  rw [this]; rfl
/-! a text that includes nothing has no such token -/
theorem tok_raw {b : UInt8} {r raw t : List UInt8} {k : Int} (h : tokC b r = some (k, raw, t)) (hk : k ≠ 4) : raw = t := by
  unfold tokC at h
  cases k1 : letterF b with
  | true => rw [k1] at h; simp only [cond_true, Option.some.injEq, Prod.mk.injEq] at h; obtain ⟨_, rfl, rfl⟩ := h; rfl
  | false =>
  rw [k1] at h; simp only [cond_false] at h
  cases k2 : digitF b with
  | true =>
    rw [k2] at h; simp only [cond_true] at h
    cases k3 : numOk (bal (wdL b r)) with
    | true => rw [k3] at h; simp only [cond_true, Option.some.injEq, Prod.mk.injEq] at h; obtain ⟨_, rfl, rfl⟩ := h; rfl
    | false => rw [k3] at h; simp at h
  | false =>
  rw [k2] at h; simp only [cond_false] at h
  cases k3 : (b.toNat == 34) with
  | true =>
    rw [k3] at h; simp only [cond_true] at h
    cases hd : r.drop (r.takeWhile notQ).length with
    | nil => rw [hd] at h; simp [strL] at h
    | cons c r2 =>
      rw [hd, str_cons] at h
      cases k4 : (c.toNat == 34) with
      | false => rw [k4] at h; simp at h
      | true =>
        rw [k4] at h; simp only [cond_true, Option.some.injEq, Prod.mk.injEq] at h
        exact absurd h.1.symm hk
  | false =>
  rw [k3] at h; simp only [cond_false] at h
  cases k4 : (b.toNat == 35) with
  | true =>
    rw [k4] at h; simp only [cond_true] at h
    cases k5 : ((wdL b r == inclL) || (wdL b r == defnL)) with
    | false => rw [k5] at h; simp at h
    | true => rw [k5] at h; simp only [cond_true, Option.some.injEq, Prod.mk.injEq] at h; obtain ⟨_, rfl, rfl⟩ := h; rfl
  | false =>
  rw [k4] at h; simp only [cond_false] at h
  cases k5 : twoL b r with
  | true =>
    rw [k5] at h; simp only [cond_true, Option.some.injEq, Prod.mk.injEq] at h
    obtain ⟨_, rfl, rfl⟩ := h; rfl
  | false =>
    rw [k5] at h; simp only [cond_false] at h
    cases k6 : oneL.any (· == b) with
    | false => rw [k6] at h; simp at h
    | true => rw [k6] at h; simp only [cond_true, Option.some.injEq, Prod.mk.injEq] at h; obtain ⟨_, rfl, rfl⟩ := h; rfl
theorem lex_noinc {file : Int} {u : List UInt8} {p : Nat × Nat} {ts : List Tok} (h : Lex file u p ts) : (∀ k : Nat, (u.drop k).take 8 ≠ inclL) → ∀ x ∈ ts, isInc x = false := by
  induction h with
  | nil p => intro _ x hx; cases hx
  | @skip u p ts c w h1 h2 ih => exact fun hn => ih fun k => by rw [List.drop_drop]; exact hn _
  | @tok b r p ts kind raw t h1 h2 h3 ih =>
    intro hn x hx
    rcases List.mem_cons.1 hx with rfl | hx
    · cases hi : isInc (⟨kind, bal t, file, p⟩ : Tok) with
      | false => rfl
      | true =>
        exfalso
        unfold isInc at hi
        rw [Bool.and_eq_true, beq_iff_eq] at hi
        obtain ⟨hk, ht⟩ := hi
        have ht : t.toArray = incB.data := by
          have : ((bal t).data == incB.data) = true := ht
          exact eq_of_beq this
        have ht2 : t = inclL := by
          have := congrArg Array.toList ht
          exact this
        have hr := tok_raw h2 (by show kind ≠ 4; rw [show kind = 5 from hk]; decide)
        rw [ht2] at hr
        have hp := (tok_pre h2).1
        rw [hr] at hp
        have := List.prefix_iff_eq_take.1 hp
        exact hn 0 (by rw [List.drop_zero]; exact this.symm)
    · exact ih (fun k => by rw [List.drop_drop]; exact hn _) x hx
theorem incK_zero (s : ByteArray) : ∀ (c k : Nat), incK s c k = 0 → ∀ j, k ≤ j → j < k + c → (s.extract j (j + 8) == incB) = false
  | 0, k, _, j, h1, h2 => by omega
  | c + 1, k, h, j, h1, h2 => by
    rw [incK] at h
    have hle := incK_le s c (k + 1)
    cases hx : s.extract k (k + 8) == incB with
    | true => rw [hx] at h; simp only [cond_true] at h; omega
    | false =>
      rw [hx] at h
      simp only [cond_false] at h
      by_cases hj : j = k
      · rw [hj]; exact hx
      · exact incK_zero s c (k + 1) (by omega) j (by omega) (by omega)
theorem inc_none {s : ByteArray} (h : incT s = 0) (k : Nat) : (s.data.toList.drop k).take 8 ≠ inclL := by
  intro e
  have hz : s.data.toList.length = s.size := rfl
  have hl := congrArg List.length e
  rw [List.length_take, List.length_drop, show inclL.length = 8 from rfl] at hl
  have := incK_zero s (s.size - 7) 0 h k (by omega) (by omega)
  rw [ext_ba, show k + 8 - k = 8 by omega, e] at this
  exact absurd this (by decide)
theorem lexA_noinc {n : Int} {s : ByteArray} {l : List Tok} (h : lexA n s = .ok l) (hi : incT s = 0) : (∀ x ∈ l, isInc x = false) ∧ Lex n s.data.toList (1, 1) l := by
  obtain ⟨ts, h1, h2⟩ := lex_of n (s.size + 1) s.data.toList (1, 1) [] l (Nat.lt_succ_self _) h
  rw [List.nil_append] at h1
  subst h1
  exact ⟨lex_noinc h2 (inc_none hi), h2⟩
theorem lexA_of {n : Int} {s : ByteArray} {l : List Tok} (h : Lex n s.data.toList (1, 1) l) : lexA n s = .ok l := by
  have := lex_to h (s.size + 1) [] (Nat.lt_succ_self _)
  rw [List.nil_append] at this
  exact this
/-! a text, an include, a text -/
def incLine : List UInt8 := [35, 105, 110, 99, 108, 117, 100, 101, 32, 34, 110, 34]
def incToks : List Tok := [⟨5, incB, 0, (1, 1)⟩, ⟨4, ⟨#[110]⟩, 0, (1, 10)⟩]
theorem inc_lex : Lex 0 incLine (1, 1) incToks := by
  obtain ⟨ts, h1, h2⟩ := lex_of 0 100 incLine (1, 1) [] incToks (by decide) (by kernel_rfl)
  rw [List.nil_append] at h1
  rw [h1]; exact h2
def midB : ByteArray := ⟨#[10, 35, 105, 110, 99, 108, 117, 100, 101, 32, 34, 110, 34, 10]⟩
theorem mid_list (a c : ByteArray) : (a ++ midB ++ c).data.toList = a.data.toList ++ 10 :: (incLine ++ 10 :: c.data.toList) := by
  rw [app_list, app_list]
  show (a.data.toList ++ 10 :: (incLine ++ [10])) ++ c.data.toList = _
  simp
def inlL (a b c : ByteArray) : List File := [⟨⟨#[109]⟩, a ++ midB ++ c⟩, ⟨⟨#[110]⟩, b⟩]
theorem inl_find (a b c : ByteArray) : findA (inlL a b c) ⟨#[109]⟩ = (0, true) := by kernel_rfl
theorem inl_tg (a b c : ByteArray) (d : Nat) : tgF (inlL a b c) ⟨#[109]⟩ [0] 0 (shT d ⟨4, ⟨#[110]⟩, 0, (1, 10)⟩) = (1, 0) := by kernel_rfl
theorem sh_inc (d : Nat) (x : Tok) : isInc (shT d x) = isInc x := rfl
theorem inline_eq {a b c : ByteArray} {x y z : List Tok} (hx : lexA 0 a = .ok x) (hy : lexA 1 b = .ok y) (hz : lexA 0 c = .ok z) (ia : incT a = 0) (ib : incT b = 0) (ic : incT c = 0) :
    ∃ d1 d2 : Nat, wovenA (inlL a b c) ⟨#[109]⟩ = (flt0, x ++ y ++ (z.map (shT d1)).map (shT d2)) := by
  obtain ⟨nx, lx⟩ := lexA_noinc hx ia
  obtain ⟨ny, ly⟩ := lexA_noinc hy ib
  obtain ⟨nz, lz⟩ := lexA_noinc hz ic
  have h1 := join_lex 0 incLine c.data.toList _ _ inc_lex lz
  have h2 := join_lex 0 a.data.toList _ _ _ lx h1
  rw [← mid_list] at h2
  generalize (walkF (1, 1) incLine).1 = d1 at *
  generalize (walkF (1, 1) a.data.toList).1 = d2 at *
  have h3 := lexA_of h2
  refine ⟨d1, d2, ?_⟩
  rw [List.map_append] at h3
  have h3 : lexA 0 (a ++ midB ++ c) = .ok (x ++ (shT d2 ⟨5, incB, 0, (1, 1)⟩ :: shT d2 ⟨4, ⟨#[110]⟩, 0, (1, 10)⟩ :: (z.map (shT d1)).map (shT d2))) := h3
  have nz2 : ∀ t ∈ (z.map (shT d1)).map (shT d2), isInc t = false := by
    intro t ht
    obtain ⟨t1, ht1, rfl⟩ := List.mem_map.1 ht
    obtain ⟨t2, ht2, rfl⟩ := List.mem_map.1 ht1
    exact nz t2 ht2
  generalize (z.map (shT d1)).map (shT d2) = z2 at *
  have f1 : ∀ w : Ws, fileW (inlL a b c) 7 1 w = (flt0, ⟨w.stack, w.ep + 1, w.cnt, w.out ++ y⟩) := by
    intro w
    have e : fileW (inlL a b c) 7 1 w = (match lexA 1 b with
      | .error q => (⟨3, 1, q⟩, w)
      | .ok l => loopW (inlL a b c) ⟨#[110]⟩ (fileW (inlL a b c) 6) l ⟨w.stack ++ [1], w.ep, w.cnt, w.out⟩) := rfl
    rw [e, hy]
    dsimp only
    rw [loop_all _ _ _ y _ ny]
    dsimp only
    rw [List.dropLast_concat]
  have f0 : fileW (inlL a b c) 8 0 ⟨[], 0, 0, []⟩ = (flt0, ⟨[], 2, 1, x ++ y ++ z2⟩) := by
    have e : fileW (inlL a b c) 8 0 ⟨[], 0, 0, []⟩ = (match lexA 0 (a ++ midB ++ c) with
      | .error q => (⟨3, 0, q⟩, ⟨[], 0, 0, []⟩)
      | .ok l => loopW (inlL a b c) ⟨#[109]⟩ (fileW (inlL a b c) 7) l ⟨[] ++ [0], 0, 0, []⟩) := rfl
    rw [e, h3]
    dsimp only
    rw [loop_pre _ _ _ x _ _ nx, List.nil_append, List.nil_append, loopW]
    rw [inl_tg a b c d2, f1]
    have hi : isInc (shT d2 ⟨5, incB, 0, (1, 1)⟩) = true := by
      show ((5 : Int) == 5 && incB == incB) = true
      decide
    rw [hi]
    dsimp only
    simp only [Bool.not_true, cond_false, show ((0 : Int) == 0) = true by decide, show (flt0.err == 0) = true by decide]
    rw [loop_all _ _ _ z2 _ nz2]
    rfl
  unfold wovenA
  rw [inl_find]
  dsimp only
  rw [f0]
  rfl
theorem map_kt (d1 d2 : Nat) (z : List Tok) (i : Nat) (t a : Tok) (h1 : ((z.map (shT d1)).map (shT d2))[i]? = some t) (h2 : z[i]? = some a) : t.kind = a.kind ∧ t.text = a.text ∧ t.file = a.file := by
  rw [List.getElem?_map, List.getElem?_map, h2] at h1
  have := Option.some.inj h1
  subst this
  exact ⟨rfl, rfl, rfl⟩
/-- token by token -/
theorem inline_at {x y z : List Tok} (fx : ∀ t ∈ x, t.file = 0) (fy : ∀ t ∈ y, t.file = 1) (fz : ∀ t ∈ z, t.file = 0) (d1 d2 : Nat) (i : Nat) (h : i < (x ++ y ++ z).length) :
    ∃ t a : Tok, (x ++ y ++ (z.map (shT d1)).map (shT d2))[i]? = some t ∧ (x ++ y ++ z)[i]? = some a ∧ t.kind = a.kind ∧ t.text = a.text ∧ t.file = (if x.length ≤ i ∧ i < x.length + y.length then 1 else 0) := by
  by_cases h1 : i < x.length
  · have e : ∀ r : List Tok, (x ++ y ++ r)[i]? = x[i]? := fun r => by rw [List.append_assoc, List.getElem?_append_left h1]
    refine ⟨x[i], x[i], by rw [e, List.getElem?_eq_getElem h1], by rw [e, List.getElem?_eq_getElem h1], rfl, rfl, ?_⟩
    rw [fx _ (List.getElem_mem h1), if_neg (by omega)]
  · by_cases h2 : i < x.length + y.length
    · have e : ∀ r : List Tok, (x ++ y ++ r)[i]? = y[i - x.length]? := fun r => by
        rw [List.append_assoc, List.getElem?_append_right (by omega), List.getElem?_append_left (by omega)]
      have h3 : i - x.length < y.length := by omega
      refine ⟨y[i - x.length], y[i - x.length], by rw [e, List.getElem?_eq_getElem h3], by rw [e, List.getElem?_eq_getElem h3], rfl, rfl, ?_⟩
      rw [fy _ (List.getElem_mem h3), if_pos (by omega)]
    · have e : ∀ r : List Tok, (x ++ y ++ r)[i]? = r[i - (x.length + y.length)]? := fun r => by
        rw [List.getElem?_append_right (by rw [List.length_append]; omega), List.length_append]
      have h3 : i - (x.length + y.length) < z.length := by rw [List.length_append, List.length_append] at h; omega
      have h4 : ((z.map (shT d1)).map (shT d2))[i - (x.length + y.length)]? = some (shT d2 (shT d1 z[i - (x.length + y.length)])) := by
        rw [List.getElem?_map, List.getElem?_map, List.getElem?_eq_getElem h3]; rfl
      refine ⟨shT d2 (shT d1 z[i - (x.length + y.length)]), z[i - (x.length + y.length)], by rw [e, h4], by rw [e, List.getElem?_eq_getElem h3], rfl, rfl, ?_⟩
      show (z[i - (x.length + y.length)]).file = _
      rw [fz _ (List.getElem_mem h3), if_neg (by omega)]
end Go.Proofs.YtcmhpjnafkpofaaDoor
