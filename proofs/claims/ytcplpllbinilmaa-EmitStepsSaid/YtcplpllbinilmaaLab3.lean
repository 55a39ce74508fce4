/- The reference's: which rows of symbols may be. -/
import Derived.Test.YtcplpllbinilmaaLab2
set_option linter.unusedVariables false
set_option linter.unusedSimpArgs false
namespace Go.Proofs.Ytcplpllbinilmaa
open Go Go.Am Go.Proofs
attribute [local irreducible] W WL DL WO RoundEnd
set_option maxRecDepth 10000
set_option maxHeartbeats 4000000
set_option linter.unusedVariables false
set_option linter.unusedSimpArgs false
/-- does a label stand ahead? -/
def dupF (label : Int) (l : List Sym) : Bool := l.any fun y => decide (label > 0) && (y.label == label)
def badT (l : List Sym) (i : Nat) (x : Sym) : Bool := (x.code == 5 || isJumpF x.code) && (decide (x.t < 0) || (decide (x.t > 0) && decide (placeF l i x.t < 0)) || (x.t == 0 && x.code == 5))
def badR (l : List Sym) (i : Nat) (x : Sym) : Bool := isJumpF x.code && (decide (x.f < 0) || (decide (x.f > 0) && decide (placeF l i x.f < 0)))
def badF (l : List Sym) (i : Nat) (x : Sym) : Bool := decide (x.label < 0) || !codeOk x.code || dupF x.label (l.take i) || badT l i x || badR l i x
def goodF (l : List Sym) : Nat → List Sym → Bool
  | _, [] => true
  | i, x :: r => !badF l i x && goodF l (i + 1) r
def lastF (l : List Sym) : Bool := match l.getLast? with
  | some x => endsF x.code
  | none => false
def rightF (l : List Sym) : Bool := !l.isEmpty && goodF l 0 l && lastF l
theorem rightR (l : List Sym) (hl : l.length < 2 ^ 40) : Comp Try.prog 11 [lst Sym.row l] (bool (rightF l)) := by
  cases hl0 : l with
  | nil =>
    refine Spec.body (C := cx [] 115) fits (fn := Try.f11) Try.func11 rfl (by decide) (by decide) (gI ?_)
    repeat' (first | ((first | refine C_r ?_ | refine O_r ?_); (conv => whnf); first | (refine ⟨fun hb => ?_, fun hb => ?_⟩ <;> try exact no_way) | refine fR ?_) | fail)
    exact ⟨rfl, rfl⟩
  | cons z zs =>
    rw [← hl0]
    have hne : 0 < l.length := by rw [hl0]; simp
    have b0 : (((l.map Sym.row).length : Int) == 0) = false := by rw [List.length_map]; exact beq_false_of_ne (by omega)
    have hz : rightF l = (goodF l 0 l && lastF l) := by unfold rightF; rw [hl0]; rfl
    clear hl0
    generalize hfb : rightF l = fb
    rw [hz] at hfb
    refine Spec.body (C := cx [] 115) fits (fn := Try.f11) Try.func11 rfl (by decide) (by decide) (gI ?_)
    repeat' (first | ((first | refine C_r ?_ | refine O_r ?_); (conv => whnf); first | (refine ⟨fun hb => ?_, fun hb => ?_⟩ <;> try exact no_way) | refine A_o ?_) | fail)
    refine wLoop [0, 3] 0 (l.length + 1) ?_
    refine (fun key => key l [] _ rfl rfl (by rw [← hfb]; rfl) :
      (∀ (rest done : List Sym) (j : Int), l = done ++ rest → j = done.length → fb = (goodF l done.length rest && lastF l) →
      WR2 _ _ _ _ _ (rest.length + 1) [(0, lst Sym.row l), (3, int .i64 j)] []) → _) ?_
    intro rest
    induction rest with
    | nil =>
      intro done j h1 hj hr
      have hlen : l.length = done.length := by rw [h1]; simp
      obtain ⟨ds, y, hy⟩ : ∃ ds y, l = ds ++ [y] := by
        rcases List.eq_nil_or_concat l with h | ⟨ds, y, h⟩
        · rw [h] at hne; simp at hne
        · exact ⟨ds, y, by simpa using h⟩
      have hds : l.length = ds.length + 1 := by rw [hy]; simp
      have hla : lastF l = endsF y.code := by unfold lastF; rw [hy, List.getLast?_concat]
      obtain ⟨xl, xt, xf, xc, xk⟩ := y
      have h3 : (l.map Sym.row)[(IntKind.wrap .i64 (((l.map Sym.row).length : Int) - 1)).toNat]? = some (Sym.row ⟨xl, xt, xf, xc, xk⟩) := by
        rw [List.length_map, wrap_ok (by omega) (by omega), hds, show (((ds.length + 1 : Nat) : Int) - 1).toNat = ds.length from by omega, hy]
        simp
      have h4 : 0 ≤ IntKind.wrap .i64 (((l.map Sym.row).length : Int) - 1) := by rw [List.length_map, wrap_ok (by omega) (by omega)]; omega
      rw [goodF, Bool.true_and, hla] at hr
      refine wR (gI ?_)
      repeat' (first | ((first | refine C_r ?_ | refine O_r ?_); (conv => whnf); first | (refine ⟨fun hb => ?_, fun hb => ?_⟩ <;> try exact no_way) | refine A_o ?_ | refine B_o ?_ | refine fR ?_) | refine X_l ?_ | fail)
      all_goals exact ⟨by rw [hr]; simp_all [endsF, Am.bool], rfl⟩
    | cons x rest ih =>
      intro done j h1 hj hr
      have hlen : l.length = done.length + (rest.length + 1) := by rw [h1]; simp
      obtain ⟨xl, xt, xf, xc, xk⟩ := x
      have c1 := codeNameR xc
      have b1 := name_ok xc
      have c2 := isJumpR xc
      have c3 := symPlaceR l done.length xt hl (by omega)
      have c4 := symPlaceR l done.length xf hl (by omega)
      rw [← hj] at c3 c4
      have htk : l.take done.length = done := by rw [h1]; simp
      have hr' : fb = (!(decide (xl < 0) || !codeOk xc || dupF xl done || badT l done.length ⟨xl, xt, xf, xc, xk⟩ || badR l done.length ⟨xl, xt, xf, xc, xk⟩) && goodF l (done.length + 1) rest && lastF l) := by
        rw [hr, goodF, badF, htk]
      have hj1 : IntKind.wrap .i64 (j + 1) = ((done ++ [(⟨xl, xt, xf, xc, xk⟩ : Sym)]).length : Int) := by rw [wrap_ok (by omega) (by omega)]; simp [hj]
      have hl1 : l = (done ++ [⟨xl, xt, xf, xc, xk⟩]) ++ rest := by rw [h1]; simp
      have ih' := ih (done ++ [⟨xl, xt, xf, xc, xk⟩]) _ hl1 hj1
      simp only [List.length_append, List.length_cons, List.length_nil, Nat.zero_add] at ih'
      rw [badT, badR] at hr'
      simp only at hr'
      generalize placeF l done.length xt = pt at *
      generalize placeF l done.length xf = pf at *
      clear hr ih
      refine wR (gI ?_)
      repeat' (first | ((first | refine C_r ?_ | refine O_r ?_); (conv => whnf); first | (refine ⟨fun hb => ?_, fun hb => ?_⟩ <;> try exact no_way) | refine A_o ?_ | refine B_o ?_ | refine fR ?_) | refine C_l (c1) ?_ | refine X_l ?_ | fail)
      · have hb' : decide (xl < 0) = true := hb
        exact ⟨by rw [hr', hb']; rfl, rfl⟩
      · rw [hb] at b1
        have b2 : codeOk xc = false := by simpa using b1
        exact ⟨by rw [hr', b2]; simp [Am.bool], rfl⟩
      rw [hb] at b1
      have b2 : codeOk xc = true := by simpa using b1
      have b3 : decide (xl < 0) = false := by assumption
      rw [b2, b3, Bool.not_true, Bool.false_or, Bool.false_or] at hr'
      refine wLoop [0, 3, 4, 5] 1 (done.length + 1) ?_
      refine (fun key => key done [] _ rfl rfl rfl :
        (∀ (rest2 done2 : List Sym) (j2 : Int), done = done2 ++ rest2 → j2 = done2.length → dupF xl done = dupF xl rest2 →
        WR2 _ _ _ _ _ (rest2.length + 1) [(0, lst Sym.row l), (3, int .i64 j), (4, .one (.ptr 0 0)), (5, int .i64 j2)] [.var ((Sym.row ⟨xl, xt, xf, xc, xk⟩).map .d)]) → _) ?_
      intro rest2
      induction rest2 with
      | nil =>
        intro done2 j2 k1 k2 k3
        have hlen2 : done.length = done2.length := by rw [k1]; simp
        rw [k3, show dupF xl [] = false from rfl, Bool.false_or] at hr'
        refine wR (gI ?_)
        repeat' (first | ((first | refine C_r ?_ | refine O_r ?_); (conv => whnf); first | (refine ⟨fun hb => ?_, fun hb => ?_⟩ <;> try exact no_way) | refine A_o ?_ | refine B_o ?_ | refine R_o ?_ | refine fR ?_) | refine B_l (c2) (fun hb => ?_) fun hb => ?_ | refine C_l (c3) ?_ | refine C_l (c4) ?_ | fail)
        all_goals first
          | refine rE (ih' ?_)
          | refine ⟨?_, rfl⟩
        all_goals (clear h1 hl1 ih' hj1 htk hz hfb k1 k2 k3 c1 c2 c3 c4 b1; rw [hr']; clear hr'; dsimp only at *; simp only [*, Am.bool, Bool.not_true, Bool.not_false, Bool.and_true, Bool.true_and, Bool.false_and, Bool.and_false, Bool.or_true, Bool.true_or, Bool.or_false, Bool.false_or, Bool.and_self, Bool.or_self])
      | cons y rest2 ih2 =>
        intro done2 j2 k1 k2 k3
        have hlen2 : done.length = done2.length + (rest2.length + 1) := by rw [k1]; simp
        have k4 : l = done2 ++ y :: (rest2 ++ ⟨xl, xt, xf, xc, xk⟩ :: rest) := by rw [h1, k1]; simp
        obtain ⟨yl, yt, yf, yc, yk⟩ := y
        rw [show dupF xl (⟨yl, yt, yf, yc, yk⟩ :: rest2) = (decide (xl > 0) && (yl == xl) || dupF xl rest2) from rfl] at k3
        refine wR (gI ?_)
        repeat' (first | ((first | refine C_r ?_ | refine O_r ?_ | refine R_r ?_); (conv => whnf); first | (refine ⟨fun hb => ?_, fun hb => ?_⟩ <;> try exact no_way) | refine C_o ?_ | refine R_o ?_ | refine fR ?_) | refine X_d ?_ | fail)
        · refine ⟨?_, rfl⟩
          rw [hr', k3]
          clear h1 hl1 ih' hj1 htk hz hfb k1 k2 k3 c1 c2 c3 c4 b1 k4 hr' ih2
          dsimp only at *
          simp only [*, Am.bool, Bool.not_true, Bool.not_false, Bool.and_true, Bool.true_and, Bool.false_and, Bool.and_false, Bool.or_true, Bool.true_or, Bool.or_false, Bool.false_or, Bool.and_self, Bool.or_self]
        · refine rE (ih2 (done2 ++ [⟨yl, yt, yf, yc, yk⟩]) _ (by rw [k1]; simp) ?_ ?_)
          · rw [wrap_ok (by omega) (by omega)]; simp [k2]
          · rw [k3]
            clear h1 hl1 ih' hj1 htk hz hfb k1 k2 k3 c1 c2 c3 c4 b1 k4 hr' ih2
            dsimp only at *
            simp only [*, Am.bool, Bool.not_true, Bool.not_false, Bool.and_true, Bool.true_and, Bool.false_and, Bool.and_false, Bool.or_true, Bool.true_or, Bool.or_false, Bool.false_or, Bool.and_self, Bool.or_self]
        · refine rE (ih2 (done2 ++ [⟨yl, yt, yf, yc, yk⟩]) _ (by rw [k1]; simp) ?_ ?_)
          · rw [wrap_ok (by omega) (by omega)]; simp [k2]
          · rw [k3]
            clear h1 hl1 ih' hj1 htk hz hfb k1 k2 k3 c1 c2 c3 c4 b1 k4 hr' ih2
            dsimp only at *
            simp only [*, Am.bool, Bool.not_true, Bool.not_false, Bool.and_true, Bool.true_and, Bool.false_and, Bool.and_false, Bool.or_true, Bool.true_or, Bool.or_false, Bool.false_or, Bool.and_self, Bool.or_self]
end Go.Proofs.Ytcplpllbinilmaa
