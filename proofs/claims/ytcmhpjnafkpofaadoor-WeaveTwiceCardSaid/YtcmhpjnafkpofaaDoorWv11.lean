/- Weaving: a text that includes another as often as one likes. -/
import Derived.Test.YtcmhpjnafkpofaaDoorWv9
set_option linter.unusedVariables false
set_option linter.unusedSimpArgs false
namespace Go.Proofs.YtcmhpjnafkpofaaDoor
open Go Go.Am Go.Proofs
set_option maxRecDepth 10000
set_option maxHeartbeats 4000000
set_option linter.unusedVariables false
set_option linter.unusedSimpArgs false
def lineL : List UInt8 := [35, 105, 110, 99, 108, 117, 100, 101, 32, 34, 46, 47, 120, 47, 46, 46, 47, 98, 34, 32, 47, 47, 32, 97, 103, 97, 105, 110]
def lineB : ByteArray := ⟨#[35, 105, 110, 99, 108, 117, 100, 101, 32, 34, 46, 47, 120, 47, 46, 46, 47, 98, 34, 32, 47, 47, 32, 97, 103, 97, 105, 110, 10]⟩
def pathB : ByteArray := ⟨#[46, 47, 120, 47, 46, 46, 47, 98]⟩
def lineT : List Tok := [⟨5, incB, 0, (1, 1)⟩, ⟨4, pathB, 0, (1, 10)⟩]
def repL : Nat → List UInt8
  | 0 => []
  | n + 1 => lineL ++ 10 :: repL n
theorem rep_snoc : ∀ n, repL (n + 1) = repL n ++ (lineL ++ [10])
  | 0 => rfl
  | n + 1 => by
    show lineL ++ 10 :: repL (n + 1) = (lineL ++ 10 :: repL n) ++ (lineL ++ [10])
    rw [rep_snoc n]
    simp
theorem rep_len : ∀ n, (repL n).length = 29 * n
  | 0 => rfl
  | n + 1 => by
    rw [repL, List.length_append, List.length_cons, rep_len n, show lineL.length = 28 from rfl]; omega
theorem line_lex : Lex 0 lineL (1, 1) lineT := by
  obtain ⟨ts, h1, h2⟩ := lex_of 0 100 lineL (1, 1) [] lineT (by decide) (by kernel_rfl)
  rw [List.nil_append] at h1
  rw [h1]; exact h2
/-- n times an include -/
def PairsT : Nat → List Tok → Prop
  | 0, l => l = []
  | n + 1, l => ∃ h s r, l = h :: s :: r ∧ isInc h = true ∧ s.kind = 4 ∧ s.text = pathB ∧ PairsT n r
theorem pairs_sh (d : Nat) : ∀ (n : Nat) (l : List Tok), PairsT n l → PairsT n (l.map (shT d))
  | 0, l, h => by
    have h : l = [] := h
    subst h; rfl
  | n + 1, l, hp => by
    obtain ⟨h, s, r, rfl, h1, h2, h3, h4⟩ := hp
    exact ⟨shT d h, shT d s, r.map (shT d), rfl, h1, h2, h3, pairs_sh d n r h4⟩
theorem rep_lex : ∀ n : Nat, ∃ l : List Tok, Lex 0 (repL n) (1, 1) l ∧ PairsT n l
  | 0 => ⟨[], .nil _, rfl⟩
  | n + 1 => by
    obtain ⟨l, h1, h2⟩ := rep_lex n
    refine ⟨_, join_lex 0 lineL (repL n) lineT l line_lex h1, ?_⟩
    exact ⟨_, _, _, rfl, rfl, rfl, rfl, pairs_sh _ n l h2⟩
def twL (t s : ByteArray) : List File := [⟨⟨#[97]⟩, t⟩, ⟨⟨#[98]⟩, s⟩]
theorem tw_find (t s : ByteArray) : findA (twL t s) ⟨#[47, 97]⟩ = (0, true) := by kernel_rfl
theorem tw_find2 (t s : ByteArray) : findA (twL t s) ⟨#[98]⟩ = (1, true) := by kernel_rfl
theorem tw_join : joinA ⟨#[97]⟩ pathB = (⟨#[98]⟩, true) := by kernel_rfl
theorem tw_tg (t s : ByteArray) (cnt : Int) (hc : cnt < 1000) (y : Tok) (h1 : y.kind = 4) (h2 : y.text = pathB) : tgF (twL t s) ⟨#[97]⟩ [0] cnt y = (1, 0) := by
  unfold tgF
  rw [h1, h2, tw_join]
  dsimp only
  rw [tw_find2]
  have h3 : decide (cnt ≥ 1000) = false := by rw [decide_eq_false_iff_not]; omega
  rw [h3]
  rfl
theorem loop_pairs {t s : ByteArray} {y : List Tok} (hy : lexA 1 s = .ok y) (ny : ∀ x ∈ y, isInc x = false) : ∀ (n : Nat) (l : List Tok) (ep : Nat) (cnt : Int) (out : List Tok), PairsT n l → cnt + n ≤ 1000 →
    loopW (twL t s) ⟨#[97]⟩ (fileW (twL t s) 7) l ⟨[0], ep, cnt, out⟩ = (flt0, ⟨[], ep + n + 1, cnt + n, out ++ (List.replicate n y).flatten⟩)
  | 0, l, ep, cnt, out, h, _ => by
    have h : l = [] := h
    subst h
    show (flt0, (⟨[], ep + 1, cnt, out⟩ : Ws)) = (flt0, ⟨[], ep + 0 + 1, cnt + 0, out ++ []⟩)
    rw [Nat.add_zero, Int.add_zero, List.append_nil]
  | n + 1, l, ep, cnt, out, hp, hc => by
    obtain ⟨h, p, r, rfl, h1, h2, h3, h4⟩ := hp
    have f1 : ∀ w : Ws, fileW (twL t s) 7 1 w = (flt0, ⟨w.stack, w.ep + 1, w.cnt, w.out ++ y⟩) := by
      intro w
      have e : fileW (twL t s) 7 1 w = (match lexA 1 s with
        | .error q => (⟨3, 1, q⟩, w)
        | .ok l => loopW (twL t s) ⟨#[98]⟩ (fileW (twL t s) 6) l ⟨w.stack ++ [1], w.ep, w.cnt, w.out⟩) := rfl
      rw [e, hy]
      dsimp only
      rw [loop_all _ _ _ y _ ny]
      dsimp only
      rw [List.dropLast_concat]
    rw [loopW, h1]
    dsimp only
    rw [tw_tg t s cnt (by omega) p h2 h3, f1]
    dsimp only
    simp only [Bool.not_true, cond_false, show ((0 : Int) == 0) = true by decide, show (flt0.err == 0) = true by decide]
    rw [loop_pairs hy ny n r (ep + 1) (cnt + 1) (out ++ y) h4 (by omega)]
    rw [List.replicate_succ, List.flatten_cons, List.append_assoc, show ep + 1 + n + 1 = ep + (n + 1) + 1 by omega, show cnt + 1 + (n : Int) = cnt + ((n + 1 : Nat) : Int) by omega]
theorem twice_eq {s : ByteArray} {y : List Tok} (hy : lexA 1 s = .ok y) (is : incT s = 0) (n : Nat) (hn : n ≤ 20) :
    wovenA (twL (ba (repL n)) s) ⟨#[47, 97]⟩ = (flt0, (List.replicate n y).flatten) := by
  obtain ⟨ny, ly⟩ := lexA_noinc hy is
  obtain ⟨l, h1, h2⟩ := rep_lex n
  have h3 : lexA 0 (ba (repL n)) = .ok l := lexA_of h1
  have f0 : fileW (twL (ba (repL n)) s) 8 0 ⟨[], 0, 0, []⟩ = (flt0, ⟨[], 0 + n + 1, 0 + n, [] ++ (List.replicate n y).flatten⟩) := by
    have e : fileW (twL (ba (repL n)) s) 8 0 ⟨[], 0, 0, []⟩ = (match lexA 0 (ba (repL n)) with
      | .error q => (⟨3, 0, q⟩, ⟨[], 0, 0, []⟩)
      | .ok l => loopW (twL (ba (repL n)) s) ⟨#[97]⟩ (fileW (twL (ba (repL n)) s) 7) l ⟨[0], 0, 0, []⟩) := rfl
    rw [e, h3]
    exact loop_pairs hy ny n l 0 0 [] h2 (by omega)
  unfold wovenA
  rw [tw_find]
  dsimp only
  rw [f0, List.nil_append]
  rfl
theorem rep_get {y : List Tok} : ∀ (n i : Nat), i < n * y.length → ((List.replicate n y).flatten)[i]? = y[i % y.length]?
  | 0, i, h => by rw [Nat.zero_mul] at h; omega
  | n + 1, i, h => by
    rw [List.replicate_succ, List.flatten_cons]
    by_cases h1 : i < y.length
    · rw [List.getElem?_append_left h1, Nat.mod_eq_of_lt h1]
    · rw [List.getElem?_append_right (by omega), rep_get n (i - y.length) (by rw [Nat.succ_mul] at h; omega), ← Nat.mod_eq_sub_mod (by omega)]
theorem rep_length (y : List Tok) (n : Nat) : ((List.replicate n y).flatten).length = n * y.length := by
  rw [List.length_flatten]; simp
end Go.Proofs.YtcmhpjnafkpofaaDoor
