/- The linker: places. -/
import Derived.Test.YtcplpllbinilmaaLab12
set_option linter.unusedVariables false
set_option linter.unusedSimpArgs false
namespace Go.Proofs.Ytcplpllbinilmaa
open Go Go.Am Go.Proofs
attribute [local irreducible] W WL DL WO RoundEnd
set_option maxRecDepth 10000
set_option maxHeartbeats 4000000
set_option linter.unusedVariables false
set_option linter.unusedSimpArgs false
def cntF (p : Bool × Bool) : Int := 1 + (bif p.1 then 1 else 0) + (bif p.2 then 1 else 0)
theorem countR (l : List Sym) (m : LM) (nn : Nat) (pl : List Int) (fa : List (Bool × Bool)) (i : Nat) (p : Bool × Bool) (hn : nn = (fa.map bbrow).length) (hp : fa[i]? = some p) : Am.Spec Try.prog 62 [.one (.ptr 3 0), int .i64 i] (linkS l m nn pl fa) (fun v σ => v = int .i64 (cntF p) ∧ σ = linkS l m nn pl fa) := by
  have hro : (fa.map bbrow)[((i : Nat) : Int).toNat]? = some (bbrow p) := by
    rw [List.getElem?_map]
    show Option.map bbrow fa[i]? = _
    rw [hp]; rfl
  have h0 : 0 ≤ ((i : Nat) : Int) := by omega
  obtain ⟨a, b⟩ := p
  cases a <;> cases b
  all_goals
    refine Spec.body (C := cx [] 23) fits (fn := Try.f62) Try.func62 rfl (by decide) (by decide) (gI ?_)
    repeat' (first | ((first | refine C_r ?_ | refine O_r ?_); (conv => whnf); first | refine A_o ?_ | refine B_o ?_) | refine Xw_l ?_ | refine Le_l ?_ | fail)
    refine W.rounds 3 ?_
    refine WR.step (gI ?_)
    repeat' (first | refine fR ?_ (h6 := linkU l m nn pl fa) | ((first | refine C_r ?_ | refine C0_r ?_ | refine O_r ?_); (conv => whnf); first | (refine ⟨fun hb => ?_, fun hb => ?_⟩ <;> try exact no_way) | refine A_o ?_ | refine F_o ?_) | fail)
    exact ⟨rfl, rfl⟩
def layF : Int → List (Bool × Bool) → List Int
  | _, [] => []
  | s, p :: r => s :: layF (s + cntF p) r
theorem cnt_ge (p : Bool × Bool) : 1 ≤ cntF p ∧ cntF p ≤ 3 := by
  obtain ⟨a, b⟩ := p
  cases a <;> cases b <;> decide
theorem take_set_end {α : Type} (s : α) : ∀ (pl : List α) (n : Nat), n < pl.length → (pl.set n s).take (n + 1) = pl.take n ++ [s]
  | [], n, h => by simp at h
  | x :: r, 0, h => by simp
  | x :: r, n + 1, h => by simp [take_set_end s r n (by simpa using h)]
theorem layR (l : List Sym) (m : LM) (nn : Nat) (pl : List Int) (fa : List (Bool × Bool)) (hl : l.length < 2 ^ 40) (hpl : pl.length = l.length) (hfa : fa.length = l.length) (hnn : nn = l.length) : Am.Spec Try.prog 47 [.one (.ptr 3 0)] (linkS l m nn pl fa) (fun v σ => v = .tup [] ∧ σ = linkS l m nn (layF 0 fa) fa) := by
  have e1 : nn = (fa.map bbrow).length := by rw [List.length_map]; omega
  generalize hfb : layF 0 fa = fb
  refine Spec.body (C := cx [] 25) fits (fn := Try.f47) Try.func47 rfl (by decide) (by decide) (gI ?_)
  repeat' (first | (refine C_r ?_; (conv => whnf); first | refine A_o ?_) | fail)
  refine wLoop [0, 2, 8, 9] 4 (l.length + 1) ?_
  refine (fun key => (key fa [] _ _ pl rfl rfl (Int.le_refl 0) (by simp) (by simpa using hfb.symm) hpl).mono (by omega) :
    (∀ (rest done : List (Bool × Bool)) (j s : Int) (pl : List Int), fa = done ++ rest → j = done.length → 0 ≤ s → s ≤ 3 * done.length → fb = pl.take done.length ++ layF s rest → pl.length = l.length →
    WR2 _ _ _ _ _ (rest.length + 1) [(0, .one (.ptr 3 0)), (2, int .i64 s), (8, int .i64 (l.map Sym.row).length), (9, int .i64 j)] (linkS l m nn pl fa)) → _) ?_
  intro rest
  induction rest with
  | nil =>
    intro done j s pl h1 hj h2 h3 hr h4
    have hlen : fa.length = done.length := by rw [h1]; simp
    rw [layF, List.append_nil, List.take_of_length_le (by omega)] at hr
    subst hr
    refine wR (gI ?_)
    repeat' (first | refine fR ?_ (h6 := linkU l m nn fb fa) | ((first | refine C_r ?_ | refine O_r ?_); (conv => whnf); first | (refine ⟨fun hb => ?_, fun hb => ?_⟩ <;> try exact no_way) | refine F_o ?_) | fail)
    exact ⟨rfl, rfl⟩
  | cons p rest ih =>
    intro done j s pl h1 hj h2 h3 hr h4
    have hlen : fa.length = done.length + (rest.length + 1) := by rw [h1]; simp
    have hp : fa[done.length]? = some p := by rw [h1]; simp
    have hj1 : IntKind.wrap .i64 (j + 1) = ((done ++ [p]).length : Int) := by rw [wrap_ok (by omega) (by omega)]; simp [hj]
    have hl1 : fa = (done ++ [p]) ++ rest := by rw [h1]; simp
    have e2 : nn = (pl.map i64row).length := by rw [List.length_map]; omega
    obtain ⟨q, hq⟩ : ∃ q, pl[done.length]? = some q := ⟨_, List.getElem?_eq_getElem (by omega)⟩
    have hro : (pl.map i64row)[j.toNat]? = some (i64row q) := by
      rw [hj, List.getElem?_map]
      show Option.map i64row pl[done.length]? = _
      rw [hq]; rfl
    have hcp := cnt_ge p
    have hs : IntKind.wrap .i64 (s + cntF p) = s + cntF p := wrap_ok (by omega) (by omega)
    have c1 := countR l m nn (pl.set done.length s) fa done.length p e1 hp
    unfold linkS at c1
    rw [List.map_set, ← hj] at c1
    have hjt : done.length = j.toNat := by omega
    rw [hjt] at c1
    have g := ih (done ++ [p]) _ _ (pl.set done.length s) hl1 hj1 (by omega : 0 ≤ s + cntF p) (by simp; omega) ?_ (by simp [h4])
    · unfold linkS at g
      rw [List.map_set, hjt, ← hs] at g
      have u1 := linkU l m nn (pl.set done.length s) fa
      have u2 := linkR l m nn (pl.set done.length s) fa
      unfold linkS at u1 u2
      rw [List.map_set, hjt] at u1 u2
      refine wR (gI ?_)
      repeat' (first | ((first | refine C_r ?_ | refine O_r ?_); (conv => whnf); first | (refine ⟨fun hb => ?_, fun hb => ?_⟩ <;> try exact no_way) | refine B_o ?_ | refine R_o ?_) | refine fun k => WL.crp [0, 1, 2, 3] _ _ _ c1 (oW ?_ _) u1 u2 | refine Xw_l ?_ | refine Se_l ?_ | fail)
      exact rE g (ht := trimL rfl u1)
    · have hlp : (done ++ [p]).length = done.length + 1 := by simp
      rw [hr, layF, hlp, take_set_end s pl done.length (by omega)]
      simp
end Go.Proofs.Ytcplpllbinilmaa
