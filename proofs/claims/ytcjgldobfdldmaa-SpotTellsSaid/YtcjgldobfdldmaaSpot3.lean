/- A part of a proof: functions of the program, walked over the abstract machine. -/
import Derived.Test.YtcjgldobfdldmaaSpot2
set_option linter.unusedVariables false
set_option linter.unusedSimpArgs false
namespace Go.Proofs.Ytcjgldobfdldmaa
open Go Go.Am Go.Proofs
attribute [local irreducible] W WL DL WO RoundEnd
set_option maxRecDepth 10000
set_option maxHeartbeats 4000000
/-- is a spot this one? -/
def eqS (q : Nat × Nat) (a b : Nat) : Bool := fEq (F q.1) a && fEq (F q.2) b
def placeF (a b : Nat) : Nat × Nat → List UInt8 → Nat → Option Nat
  | q, [], i => if eqS q a b then some i else none
  | q, c :: r, i => if eqS q a b then some i else placeF a b (stepF q c) r (i + 1)
def placeV (r : Option Nat) : V := .tup [.one (.d (.sc (.int .i64 (r.getD 0)))), .one (.d (.sc (.bool r.isSome)))]
theorem take_one (l done rest : List UInt8) (b : UInt8) (h : l = done ++ b :: rest) : (l.take (done.length + 1)).drop done.length = [b] := by
  subst h
  rw [List.take_append, List.drop_append]
  simp
theorem placeR (s : ByteArray) (a b : Nat) (hs : s.size < 2 ^ 40) : Comp Try.prog 10 [str s, .one (.d (.sc (.complex .f64 a b)))] (placeV (placeF a b (1, 1) s.data.toList 0)) := by
  have hsz : s.size = s.data.toList.length := rfl
  generalize hfb : placeF a b (1, 1) s.data.toList 0 = fb
  refine Spec.body (C := cx [] 31) fits (fn := Try.f10) Try.func10 rfl (by decide) (by decide) (gI ?_)
  repeat' (first | ((first | refine C_r ?_ | refine C0_r ?_ | refine O_r ?_ | refine R_r ?_); (conv => whnf); first | (refine ⟨fun hb => ?_, fun hb => ?_⟩ <;> try exact no_way) | refine A_o ?_ | refine B_o ?_ | refine C_o ?_ | refine R_o ?_ | refine fR ?_ | refine fRk ?_ | refine F_o ?_) | refine SA_l ?_ | refine V_l ?_ | refine L_l ?_ | refine Q_l ?_ | refine X_l ?_ | refine Xa_l ?_ | refine Xs_l ?_ | refine K_l ?_ | refine Ka_l ?_ | refine Lk_l ?_ | refine Up_l ?_ | refine Del_l ?_ | refine St_l ?_ | refine LU_l ?_ | refine Xw_l ?_ | refine Le_l ?_ | refine Se_l ?_ | refine M_l ?_ | refine A_l ?_ | refine A0_l ?_ | refine A1_l ?_ | refine Mk_l ?_ | refine Kz_l ?_ | refine W_l ?_ | fail)
  refine wLoop [0, 1, 6, 9, 10] 0 (s.size + 1) ?_
  have e3 : spotV (1, 1) = .one (.d (.sc (.complex .f64 4607182418800017408 4607182418800017408))) := by unfold spotV; rw [F_one]
  refine (fun key => key s.data.toList [] _ (1, 1) _ rfl rfl hfb.symm ⟨Nat.le_refl _, Nat.le_refl _⟩ e3.symm :
    (∀ (rest done : List UInt8) (j : Int) (q : Nat × Nat) (v : V), s.data.toList = done ++ rest → j = done.length → fb = placeF a b q rest done.length → q.1 ≤ done.length + 1 ∧ q.2 ≤ done.length + 1 → v = spotV q →
    WR2 _ _ _ _ _ (rest.length + 1) [(0, str s), (1, .one (.d (.sc (.complex .f64 a b)))), (6, v), (9, int .i64 s.size), (10, int .i64 j)] []) → _) ?_
  intro rest
  induction rest with
  | nil =>
    intro done j q v h1 hj hr hq hv
    subst hv
    have hlen : s.data.toList.length = done.length := by rw [h1]; simp
    rw [placeF] at hr
    have c1 : Comp Try.prog 19 [str s, spotV q, .one (.d (.sc (.complex .f64 a b)))] (placeV fb) := by
      rw [hr]
      cases he : eqS q a b with
      | true =>
        have b1 : (!(fEq (F q.1) a && fEq (F q.2) b)) = false := by rw [show (fEq (F q.1) a && fEq (F q.2) b) = eqS q a b from rfl, he]; rfl
        refine Spec.body (C := cx [] 13) fits (fn := Try.f19) Try.func19 rfl (by decide) (by decide) (gI ?_)
        repeat' (first | ((first | refine C_r ?_ | refine C0_r ?_ | refine O_r ?_ | refine R_r ?_); (conv => whnf); first | (refine ⟨fun hb => ?_, fun hb => ?_⟩ <;> try exact no_way) | refine A_o ?_ | refine B_o ?_ | refine C_o ?_ | refine R_o ?_ | refine fR ?_ | refine fRk ?_ | refine F_o ?_) | refine SA_l ?_ | refine V_l ?_ | refine L_l ?_ | refine Q_l ?_ | refine X_l ?_ | refine Xa_l ?_ | refine Xs_l ?_ | refine K_l ?_ | refine Ka_l ?_ | refine Lk_l ?_ | refine Up_l ?_ | refine Del_l ?_ | refine St_l ?_ | refine LU_l ?_ | refine Xw_l ?_ | refine Le_l ?_ | refine Se_l ?_ | refine M_l ?_ | refine A_l ?_ | refine A0_l ?_ | refine A1_l ?_ | refine Mk_l ?_ | refine Kz_l ?_ | refine W_l ?_ | fail)
        exact ⟨by simp only [if_true, placeV, Option.getD_some, Option.isSome_some, ← hlen, ← hsz], rfl⟩
      | false =>
        have b1 : (!(fEq (F q.1) a && fEq (F q.2) b)) = true := by rw [show (fEq (F q.1) a && fEq (F q.2) b) = eqS q a b from rfl, he]; rfl
        refine Spec.body (C := cx [] 13) fits (fn := Try.f19) Try.func19 rfl (by decide) (by decide) (gI ?_)
        repeat' (first | ((first | refine C_r ?_ | refine C0_r ?_ | refine O_r ?_ | refine R_r ?_); (conv => whnf); first | (refine ⟨fun hb => ?_, fun hb => ?_⟩ <;> try exact no_way) | refine A_o ?_ | refine B_o ?_ | refine C_o ?_ | refine R_o ?_ | refine fR ?_ | refine fRk ?_ | refine F_o ?_) | refine SA_l ?_ | refine V_l ?_ | refine L_l ?_ | refine Q_l ?_ | refine X_l ?_ | refine Xa_l ?_ | refine Xs_l ?_ | refine K_l ?_ | refine Ka_l ?_ | refine Lk_l ?_ | refine Up_l ?_ | refine Del_l ?_ | refine St_l ?_ | refine LU_l ?_ | refine Xw_l ?_ | refine Le_l ?_ | refine Se_l ?_ | refine M_l ?_ | refine A_l ?_ | refine A0_l ?_ | refine A1_l ?_ | refine Mk_l ?_ | refine Kz_l ?_ | refine W_l ?_ | fail)
        exact ⟨rfl, rfl⟩
    refine wR (gI ?_)
    repeat' (first | ((first | refine C_r ?_ | refine C0_r ?_ | refine O_r ?_ | refine R_r ?_); (conv => whnf); first | (refine ⟨fun hb => ?_, fun hb => ?_⟩ <;> try exact no_way) | refine A_o ?_ | refine B_o ?_ | refine C_o ?_ | refine R_o ?_ | refine fR ?_ | refine fRk ?_ | refine F_o ?_) | refine C_l (c1) ?_ | refine SA_l ?_ | refine V_l ?_ | refine L_l ?_ | refine Q_l ?_ | refine X_l ?_ | refine Xa_l ?_ | refine Xs_l ?_ | refine K_l ?_ | refine Ka_l ?_ | refine Lk_l ?_ | refine Up_l ?_ | refine Del_l ?_ | refine St_l ?_ | refine LU_l ?_ | refine Xw_l ?_ | refine Le_l ?_ | refine Se_l ?_ | refine M_l ?_ | refine A_l ?_ | refine A0_l ?_ | refine A1_l ?_ | refine Mk_l ?_ | refine Kz_l ?_ | refine W_l ?_ | fail)
    all_goals exact ⟨by simp only [placeV, hb], rfl⟩
  | cons c rest ih =>
    intro done j q v h1 hj hr hq hv
    subst hv
    have hlen : s.data.toList.length = done.length + (rest.length + 1) := by rw [h1]; simp
    have hj1 : IntKind.wrap .i64 (j + 1) = ((done ++ [c]).length : Int) := by rw [wrap_ok (by omega) (by omega)]; simp [hj]
    have hl1 : s.data.toList = (done ++ [c]) ++ rest := by rw [h1]; simp
    have hex : (s.extract j.toNat (IntKind.wrap .i64 (j + 1)).toNat).data.toList = [c] := by
      rw [extract_list, hj1, hj]
      have e1 : (((done ++ [c]).length : Int)).toNat = done.length + 1 := by simp
      have e2 : ((done.length : Int)).toNat = done.length := by omega
      rw [e1, e2]
      exact take_one _ done rest c h1
    have hes : (s.extract j.toNat (IntKind.wrap .i64 (j + 1)).toNat).size = 1 := by
      show (s.extract j.toNat (IntKind.wrap .i64 (j + 1)).toNat).data.toList.length = 1
      rw [hex]; rfl
    have c1 := behindR q (s.extract j.toNat (IntKind.wrap .i64 (j + 1)).toNat) (by omega) (by omega)
    rw [hex] at c1
    have hw : walkF q [c] = stepF q c := rfl
    rw [hw] at c1
    have hst : (stepF q c).1 ≤ q.1 + 1 ∧ (stepF q c).2 ≤ q.2 + 1 := by unfold stepF; split <;> simp <;> omega
    have hj2 : j ≤ IntKind.wrap .i64 (j + 1) := by rw [hj1, hj]; simp; omega
    have hj3 : IntKind.wrap .i64 (j + 1) ≤ (s.size : Int) := by rw [hj1]; simp; omega
    rw [placeF] at hr
    cases he : eqS q a b with
    | true =>
      rw [he] at hr
      have b1 : (fEq (F q.1) a && fEq (F q.2) b) = true := he
      refine wR (gI ?_)
      repeat' (first | ((first | refine C_r ?_ | refine C0_r ?_ | refine O_r ?_ | refine R_r ?_); (conv => whnf); first | (refine ⟨fun hb => ?_, fun hb => ?_⟩ <;> try exact no_way) | refine A_o ?_ | refine B_o ?_ | refine C_o ?_ | refine R_o ?_ | refine fR ?_ | refine fRk ?_ | refine F_o ?_) | refine SA_l ?_ | refine V_l ?_ | refine L_l ?_ | refine Q_l ?_ | refine X_l ?_ | refine Xa_l ?_ | refine Xs_l ?_ | refine K_l ?_ | refine Ka_l ?_ | refine Lk_l ?_ | refine Up_l ?_ | refine Del_l ?_ | refine St_l ?_ | refine LU_l ?_ | refine Xw_l ?_ | refine Le_l ?_ | refine Se_l ?_ | refine M_l ?_ | refine A_l ?_ | refine A0_l ?_ | refine A1_l ?_ | refine Mk_l ?_ | refine Kz_l ?_ | refine W_l ?_ | fail)
      exact ⟨by rw [hr]; simp only [if_true, placeV, Option.getD_some, Option.isSome_some, hj], rfl⟩
    | false =>
      rw [he] at hr
      have b1 : (fEq (F q.1) a && fEq (F q.2) b) = false := he
      have hr2 : fb = placeF a b (stepF q c) rest (done ++ [c]).length := by rw [hr]; simp
      refine wR (gI ?_)
      repeat' (first | ((first | refine C_r ?_ | refine C0_r ?_ | refine O_r ?_ | refine R_r ?_); (conv => whnf); first | (refine ⟨fun hb => ?_, fun hb => ?_⟩ <;> try exact no_way) | refine A_o ?_ | refine B_o ?_ | refine C_o ?_ | refine R_o ?_ | refine fR ?_ | refine fRk ?_ | refine F_o ?_) | refine C_l (c1) ?_ | refine SA_l ?_ | refine V_l ?_ | refine L_l ?_ | refine Q_l ?_ | refine X_l ?_ | refine Xa_l ?_ | refine Xs_l ?_ | refine K_l ?_ | refine Ka_l ?_ | refine Lk_l ?_ | refine Up_l ?_ | refine Del_l ?_ | refine St_l ?_ | refine LU_l ?_ | refine Xw_l ?_ | refine Le_l ?_ | refine Se_l ?_ | refine M_l ?_ | refine A_l ?_ | refine A0_l ?_ | refine A1_l ?_ | refine Mk_l ?_ | refine Kz_l ?_ | refine W_l ?_ | fail)
      refine rE (ih (done ++ [c]) _ (stepF q c) _ hl1 hj1 hr2 (by simp; omega) rfl)
theorem place_at (a b : Nat) : ∀ (rest done : List UInt8), placeF a b (walkF (1, 1) done) rest done.length = none ∨ ∃ i, placeF a b (walkF (1, 1) done) rest done.length = some i ∧ done.length ≤ i
  | [], done => by
    rw [placeF]; split
    · exact .inr ⟨_, rfl, Nat.le_refl _⟩
    · exact .inl rfl
  | c :: rest, done => by
    rw [placeF]; split
    · exact .inr ⟨_, rfl, Nat.le_refl _⟩
    · rw [show stepF (walkF (1, 1) done) c = walkF (1, 1) (done ++ [c]) from (walk_snoc _ _ _).symm, show done.length + 1 = (done ++ [c]).length by simp]
      rcases place_at a b rest (done ++ [c]) with h | ⟨i, h1, h2⟩
      · exact .inl h
      · exact .inr ⟨i, h1, by simp at h2; omega⟩
theorem capF_nat (i : Nat) (n : Nat) (h : i ≤ n) : capF (i : Int) n = i := by
  unfold capF
  rw [if_neg (by omega), if_neg (by omega)]; simp
theorem placeRefR (s : ByteArray) (a b : Nat) (hs : s.size < 2 ^ 40) : Comp Try.prog 11 [str s, .one (.d (.sc (.complex .f64 a b)))] (placeV (placeF a b (1, 1) s.data.toList 0)) := by
  have hsz : s.size = s.data.toList.length := rfl
  generalize hfb : placeF a b (1, 1) s.data.toList 0 = fb
  refine Spec.body (C := cx [] 27) fits (fn := Try.f11) Try.func11 rfl (by decide) (by decide) (gI ?_)
  repeat' (first | ((first | refine C_r ?_ | refine C0_r ?_ | refine O_r ?_ | refine R_r ?_); (conv => whnf); first | (refine ⟨fun hb => ?_, fun hb => ?_⟩ <;> try exact no_way) | refine A_o ?_ | refine B_o ?_ | refine C_o ?_ | refine R_o ?_ | refine fR ?_ | refine fRk ?_ | refine F_o ?_) | refine SA_l ?_ | refine V_l ?_ | refine L_l ?_ | refine Q_l ?_ | refine X_l ?_ | refine Xa_l ?_ | refine Xs_l ?_ | refine K_l ?_ | refine Ka_l ?_ | refine Lk_l ?_ | refine Up_l ?_ | refine Del_l ?_ | refine St_l ?_ | refine LU_l ?_ | refine Xw_l ?_ | refine Le_l ?_ | refine Se_l ?_ | refine M_l ?_ | refine A_l ?_ | refine A0_l ?_ | refine A1_l ?_ | refine Mk_l ?_ | refine Kz_l ?_ | refine W_l ?_ | fail)
  refine wLoop [0, 1, 6] 0 (s.size + 2) ?_
  refine (fun key => key s.data.toList [] _ rfl rfl hfb.symm :
    (∀ (rest done : List UInt8) (j : Int), s.data.toList = done ++ rest → j = done.length → fb = placeF a b (walkF (1, 1) done) rest done.length →
    WR2 _ _ _ _ _ (rest.length + 2) [(0, str s), (1, .one (.d (.sc (.complex .f64 a b)))), (6, int .i64 j)] []) → _) ?_
  intro rest
  induction rest with
  | nil =>
    intro done j h1 hj hr
    have hlen : s.data.toList.length = done.length := by rw [h1]; simp
    have c1 := atRefR s j (by omega)
    have hat : atF s j = walkF (1, 1) done := by
      unfold atF
      rw [hj, capF_nat _ _ (by omega), h1]; simp
    rw [hat] at c1
    have c2 := spotR (walkF (1, 1) done).1 (walkF (1, 1) done).2
    generalize walkF (1, 1) done = q at *
    rw [placeF] at hr
    cases he : eqS q a b with
    | true =>
      rw [he] at hr
      have b1 : (fEq (F q.1) a && fEq (F q.2) b) = true := he
      refine wR (gI ?_)
      repeat' (first | ((first | refine C_r ?_ | refine C0_r ?_ | refine O_r ?_ | refine R_r ?_); (conv => whnf); first | (refine ⟨fun hb => ?_, fun hb => ?_⟩ <;> try exact no_way) | refine A_o ?_ | refine B_o ?_ | refine C_o ?_ | refine R_o ?_ | refine fR ?_ | refine fRk ?_ | refine F_o ?_) | refine C_l (c1) ?_ | refine C_l (c2) ?_ | refine SA_l ?_ | refine V_l ?_ | refine L_l ?_ | refine Q_l ?_ | refine X_l ?_ | refine Xa_l ?_ | refine Xs_l ?_ | refine K_l ?_ | refine Ka_l ?_ | refine Lk_l ?_ | refine Up_l ?_ | refine Del_l ?_ | refine St_l ?_ | refine LU_l ?_ | refine Xw_l ?_ | refine Le_l ?_ | refine Se_l ?_ | refine M_l ?_ | refine A_l ?_ | refine A0_l ?_ | refine A1_l ?_ | refine Mk_l ?_ | refine Kz_l ?_ | refine W_l ?_ | fail)
      all_goals exact ⟨by rw [hr]; simp only [if_true, placeV, Option.getD_some, Option.isSome_some, hj], rfl⟩
    | false =>
      rw [he] at hr
      have b1 : (fEq (F q.1) a && fEq (F q.2) b) = false := he
      have hj1 : IntKind.wrap .i64 (j + 1) = (done.length : Int) + 1 := by rw [wrap_ok (by omega) (by omega), hj]
      refine wR (gI ?_)
      repeat' (first | ((first | refine C_r ?_ | refine C0_r ?_ | refine O_r ?_ | refine R_r ?_); (conv => whnf); first | (refine ⟨fun hb => ?_, fun hb => ?_⟩ <;> try exact no_way) | refine A_o ?_ | refine B_o ?_ | refine C_o ?_ | refine R_o ?_ | refine fR ?_ | refine fRk ?_ | refine F_o ?_) | refine C_l (c1) ?_ | refine C_l (c2) ?_ | refine SA_l ?_ | refine V_l ?_ | refine L_l ?_ | refine Q_l ?_ | refine X_l ?_ | refine Xa_l ?_ | refine Xs_l ?_ | refine K_l ?_ | refine Ka_l ?_ | refine Lk_l ?_ | refine Up_l ?_ | refine Del_l ?_ | refine St_l ?_ | refine LU_l ?_ | refine Xw_l ?_ | refine Le_l ?_ | refine Se_l ?_ | refine M_l ?_ | refine A_l ?_ | refine A0_l ?_ | refine A1_l ?_ | refine Mk_l ?_ | refine Kz_l ?_ | refine W_l ?_ | fail)
      refine rE ?_
      refine wR (gI ?_)
      repeat' (first | ((first | refine C_r ?_ | refine C0_r ?_ | refine O_r ?_ | refine R_r ?_); (conv => whnf); first | (refine ⟨fun hb => ?_, fun hb => ?_⟩ <;> try exact no_way) | refine A_o ?_ | refine B_o ?_ | refine C_o ?_ | refine R_o ?_ | refine fR ?_ | refine fRk ?_ | refine F_o ?_) | refine SA_l ?_ | refine V_l ?_ | refine L_l ?_ | refine Q_l ?_ | refine X_l ?_ | refine Xa_l ?_ | refine Xs_l ?_ | refine K_l ?_ | refine Ka_l ?_ | refine Lk_l ?_ | refine Up_l ?_ | refine Del_l ?_ | refine St_l ?_ | refine LU_l ?_ | refine Xw_l ?_ | refine Le_l ?_ | refine Se_l ?_ | refine M_l ?_ | refine A_l ?_ | refine A0_l ?_ | refine A1_l ?_ | refine Mk_l ?_ | refine Kz_l ?_ | refine W_l ?_ | fail)
      exact ⟨by rw [hr]; rfl, rfl⟩
  | cons c rest ih =>
    intro done j h1 hj hr
    have hlen : s.data.toList.length = done.length + (rest.length + 1) := by rw [h1]; simp
    have c1 := atRefR s j (by omega)
    have hat : atF s j = walkF (1, 1) done := by
      unfold atF
      rw [hj, capF_nat _ _ (by omega), h1]; simp
    rw [hat] at c1
    have c2 := spotR (walkF (1, 1) done).1 (walkF (1, 1) done).2
    have hj1 : IntKind.wrap .i64 (j + 1) = ((done ++ [c]).length : Int) := by rw [wrap_ok (by omega) (by omega)]; simp [hj]
    have hl1 : s.data.toList = (done ++ [c]) ++ rest := by rw [h1]; simp
    rw [placeF] at hr
    have g := fun h => ih (done ++ [c]) _ hl1 hj1 h
    rw [walk_snoc] at g
    generalize walkF (1, 1) done = q at *
    cases he : eqS q a b with
    | true =>
      rw [he] at hr
      have b1 : (fEq (F q.1) a && fEq (F q.2) b) = true := he
      refine wR (gI ?_)
      repeat' (first | ((first | refine C_r ?_ | refine C0_r ?_ | refine O_r ?_ | refine R_r ?_); (conv => whnf); first | (refine ⟨fun hb => ?_, fun hb => ?_⟩ <;> try exact no_way) | refine A_o ?_ | refine B_o ?_ | refine C_o ?_ | refine R_o ?_ | refine fR ?_ | refine fRk ?_ | refine F_o ?_) | refine C_l (c1) ?_ | refine C_l (c2) ?_ | refine SA_l ?_ | refine V_l ?_ | refine L_l ?_ | refine Q_l ?_ | refine X_l ?_ | refine Xa_l ?_ | refine Xs_l ?_ | refine K_l ?_ | refine Ka_l ?_ | refine Lk_l ?_ | refine Up_l ?_ | refine Del_l ?_ | refine St_l ?_ | refine LU_l ?_ | refine Xw_l ?_ | refine Le_l ?_ | refine Se_l ?_ | refine M_l ?_ | refine A_l ?_ | refine A0_l ?_ | refine A1_l ?_ | refine Mk_l ?_ | refine Kz_l ?_ | refine W_l ?_ | fail)
      all_goals exact ⟨by rw [hr]; simp only [if_true, placeV, Option.getD_some, Option.isSome_some, hj], rfl⟩
    | false =>
      rw [he] at hr
      have b1 : (fEq (F q.1) a && fEq (F q.2) b) = false := he
      refine wR (gI ?_)
      repeat' (first | ((first | refine C_r ?_ | refine C0_r ?_ | refine O_r ?_ | refine R_r ?_); (conv => whnf); first | (refine ⟨fun hb => ?_, fun hb => ?_⟩ <;> try exact no_way) | refine A_o ?_ | refine B_o ?_ | refine C_o ?_ | refine R_o ?_ | refine fR ?_ | refine fRk ?_ | refine F_o ?_) | refine C_l (c1) ?_ | refine C_l (c2) ?_ | refine SA_l ?_ | refine V_l ?_ | refine L_l ?_ | refine Q_l ?_ | refine X_l ?_ | refine Xa_l ?_ | refine Xs_l ?_ | refine K_l ?_ | refine Ka_l ?_ | refine Lk_l ?_ | refine Up_l ?_ | refine Del_l ?_ | refine St_l ?_ | refine LU_l ?_ | refine Xw_l ?_ | refine Le_l ?_ | refine Se_l ?_ | refine M_l ?_ | refine A_l ?_ | refine A0_l ?_ | refine A1_l ?_ | refine Mk_l ?_ | refine Kz_l ?_ | refine W_l ?_ | fail)
      exact rE (g (by rw [hr]; simp))
end Go.Proofs.Ytcjgldobfdldmaa
