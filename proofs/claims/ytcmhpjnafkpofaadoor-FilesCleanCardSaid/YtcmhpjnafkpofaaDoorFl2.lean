/- Paths: what is clean. -/
import Derived.Test.YtcmhpjnafkpofaaDoorFl1
set_option linter.unusedVariables false
set_option linter.unusedSimpArgs false
namespace Go.Proofs.YtcmhpjnafkpofaaDoor
open Go Go.Am Go.Proofs
attribute [local irreducible] W WL DL WO RoundEnd
set_option maxRecDepth 10000
set_option maxHeartbeats 4000000
set_option linter.unusedVariables false
set_option linter.unusedSimpArgs false
/-- parts, one by one, onto those that stand so far -/
def cleanW : List ByteArray → List ByteArray → Option (List ByteArray)
  | [], out => some out
  | x :: r, out => bif x == ⟨#[]⟩ || x == ⟨#[46]⟩ then cleanW r out
    else bif x == ⟨#[46, 46]⟩ then (bif out.isEmpty then none else cleanW r out.dropLast)
    else cleanW r (out ++ [x])
abbrev pathV (s : ByteArray) (b : Bool) : V := .tup [.one (.d (.sc (.string s))), .one (.d (.sc (.bool b)))]
def cleanV (o : Option (List ByteArray)) : V := match o with
  | none => pathV ⟨#[]⟩ false
  | some out => pathV (joinB out) (decide ((out.length : Int) > 0))
theorem cleanW_len : ∀ (r out l : List ByteArray), cleanW r out = some l → l.length ≤ out.length + r.length
  | [], out, l, h => by
    rw [cleanW] at h; rw [← Option.some.inj h]; simp
  | x :: r, out, l, h => by
    rw [cleanW] at h
    rw [List.length_cons]
    cases h1 : (x == ⟨#[]⟩ || x == ⟨#[46]⟩) with
    | true => rw [h1] at h; have := cleanW_len r out l h; omega
    | false =>
      rw [h1] at h
      cases h2 : x == ⟨#[46, 46]⟩ with
      | true =>
        rw [h2] at h
        cases h3 : out.isEmpty with
        | true => rw [h3] at h; cases h
        | false =>
          rw [h3] at h
          have := cleanW_len r out.dropLast l h
          rw [List.length_dropLast] at this; omega
      | false =>
        rw [h2] at h
        have := cleanW_len r (out ++ [x]) l h
        rw [List.length_append, List.length_singleton] at this; omega
theorem drop_rows (out : List ByteArray) (h : 0 < out.length) (hl : out.length < 2 ^ 40) : (out.map strrow).take (IntKind.i64.wrap (((out.map strrow).length : Int) - 1)).toNat = out.dropLast.map strrow := by
  rw [List.length_map, wrap_ok (by omega) (by omega)]
  have : ((out.length : Int) - 1).toNat = out.length - 1 := by omega
  rw [this, ← List.map_take, List.dropLast_eq_take]
theorem drop_len (out : List ByteArray) (h : 0 < out.length) (hl : out.length < 2 ^ 40) : (IntKind.i64.wrap (((out.map strrow).length : Int) - 1)).toNat = (out.dropLast.map strrow).length := by
  rw [List.length_map, wrap_ok (by omega) (by omega), List.length_map, List.length_dropLast]
  omega
/-- the text that parts make is no longer than what they came of -/
theorem files_clean [GVals] (s : ByteArray) (hs : s.size < 4294967281) (hj : ∀ out, cleanW (pieces s) [] = some out → (Lib.join (out.map (·.data.toList)) [47]).length ≤ 140737488355328) (hp : (pieces s).length < 2 ^ 34) : Comp Tryd.prog 10 [str s] (cleanV (cleanW (pieces s) [])) := by
  have c1 := splitR s hs
  generalize pieces s = ps at *
  generalize hfb : cleanW ps [] = fb at *
  refine Spec.body (C := cx [(4, true), (18, true)] 43) fits (fn := Tryd.f10) Tryd.func10 rfl (by decide) (by decide) (gI ?_)
  repeat' (first | ((first | refine C_r ?_ | refine C0_r ?_ | refine O_r ?_ | refine R_r ?_); (conv => whnf); first | (refine ⟨fun hb => ?_, fun hb => ?_⟩ <;> try exact no_way) | refine A_o ?_ | refine B_o ?_ | refine C_o ?_ | refine R_o ?_ | refine fR ?_ | refine fRk ?_ | refine F_o ?_) | refine C_l (c1) ?_ | refine SA_l ?_ | refine V_l ?_ | refine L_l ?_ | refine Q_l ?_ | refine X_l ?_ | refine Xa_l ?_ | refine Xs_l ?_ | refine K_l ?_ | refine Ka_l ?_ | refine Lk_l ?_ | refine Up_l ?_ | refine Del_l ?_ | refine St_l ?_ | refine LU_l ?_ | refine Xw_l ?_ | refine Le_l ?_ | refine Se_l ?_ | refine M_l ?_ | refine A_l ?_ | refine A0_l ?_ | refine A1_l ?_ | refine Mk_l ?_ | refine Kz_l ?_ | refine W_l ?_ | refine C_d (c1) ?_ | refine SA_d ?_ | refine V_d ?_ | refine L_d ?_ | refine Q_d ?_ | refine X_d ?_ | refine Xs_d ?_ | refine K_d ?_ | refine Ka_d ?_ | refine Lk_d ?_ | refine Up_d ?_ | refine A_d ?_ | refine A0_d ?_ | refine St_d ?_ | refine LU_d ?_ | refine Xw_d ?_ | refine Le_d ?_ | refine Se_d ?_ | refine M_d ?_ | refine Mk_d ?_ | refine N_d ?_ | refine Kz_d ?_ | refine W_d ?_ | fail)
  clear c1
  refine wLoop [4, 8, 9, 10] 1 (ps.length + 1) ?_
  refine (fun key => key ps [] [] 0 rfl hfb.symm (Nat.le_refl _) :
    (∀ (rest done out : List ByteArray) (ep : Nat), ps = done ++ rest → fb = cleanW rest out → out.length ≤ done.length →
    WR2 _ _ _ _ _ (rest.length + 1) [(4, .one (.arr 0 ep (out.map strrow).length)), (8, lst strrow ps), (9, int .i64 (ps.map strrow).length), (10, int .i64 done.length)] [.arr ep true 1 (out.map strrow)]) → _) ?_
  intro rest
  induction rest with
  | nil =>
    intro done out ep h1 hr ho
    have hlen : ps.length = done.length := by rw [h1]; simp
    have hfb2 : fb = some out := hr
    have c2 := joinR out (by omega) (hj out hfb2)
    subst hfb2
    have hz : (decide (((out.map strrow).length : Int) > 0)) = decide ((out.length : Int) > 0) := by rw [List.length_map]
    have q : decide ((done.length : Int) < ((ps.map strrow).length : Int)) = false := by rw [decide_eq_false_iff_not, List.length_map]; omega
    refine wR (gI ?_)
    refine gF 0 ?_
    repeat' (first | ((first | refine C_r ?_ | refine C0_r ?_ | refine O_r ?_ | refine R_r ?_); (conv => whnf); first | (refine ⟨fun hb => ?_, fun hb => ?_⟩ <;> try exact no_way) | refine A_o ?_ | refine B_o ?_ | refine C_o ?_ | refine R_o ?_ | refine fR ?_ | refine fRk ?_ | refine F_o ?_) | refine C_l (c2) ?_ | refine SA_l ?_ | refine V_l ?_ | refine L_l ?_ | refine Q_l ?_ | refine X_l ?_ | refine Xa_l ?_ | refine Xs_l ?_ | refine K_l ?_ | refine Ka_l ?_ | refine Lk_l ?_ | refine Up_l ?_ | refine Del_l ?_ | refine St_l ?_ | refine LU_l ?_ | refine Xw_l ?_ | refine Le_l ?_ | refine Se_l ?_ | refine M_l ?_ | refine A_l ?_ | refine A0_l ?_ | refine A1_l ?_ | refine Mk_l ?_ | refine Kz_l ?_ | refine W_l ?_ | refine C_d (c2) ?_ | refine SA_d ?_ | refine V_d ?_ | refine L_d ?_ | refine Q_d ?_ | refine X_d ?_ | refine Xs_d ?_ | refine K_d ?_ | refine Ka_d ?_ | refine Lk_d ?_ | refine Up_d ?_ | refine A_d ?_ | refine A0_d ?_ | refine St_d ?_ | refine LU_d ?_ | refine Xw_d ?_ | refine Le_d ?_ | refine Se_d ?_ | refine M_d ?_ | refine Mk_d ?_ | refine N_d ?_ | refine Kz_d ?_ | refine W_d ?_ | fail)
    · rw [hb] at hz
      exact ⟨by dsimp only [cleanV]; rw [← hz], rfl⟩
    · rw [hb] at hz
      exact ⟨by dsimp only [cleanV]; rw [← hz], rfl⟩
  | cons x rest ih =>
    intro done out ep h1 hr ho
    have hlen : ps.length = done.length + (rest.length + 1) := by rw [h1]; simp
    have q : decide ((done.length : Int) < ((ps.map strrow).length : Int)) = true := by rw [decide_eq_true_eq, List.length_map]; omega
    have hx : ps[((done.length : Nat) : Int).toNat]? = some x := by rw [h1]; simp
    have g2 := at_of (f := strrow) hx
    have e7 : IntKind.i64.wrap ((done.length : Int) + 1) = ((done.length + 1 : Nat) : Int) := by rw [wrap_ok (by omega) (by omega)]; omega
    have hol : out.length < 2 ^ 34 := by omega
    have hol2 : (out.map strrow).length < 2 ^ 34 := by rw [List.length_map]; omega
    have hnx := fun out2 ep2 (h : fb = cleanW rest out2) (hl2 : out2.length ≤ done.length + 1) => ih (done ++ [x]) out2 ep2 (by rw [h1]; simp) h (by rw [List.length_append]; exact hl2)
    rw [show (done ++ [x]).length = done.length + 1 from by simp] at hnx
    rw [cleanW] at hr
    cases h0 : out.isEmpty with
    | true =>
      have ho0 : out = [] := List.isEmpty_iff.1 h0
      subst ho0
      clear ih
      refine wR (gI ?_)
      repeat' (first | ((first | refine C_r ?_ | refine C0_r ?_ | refine O_r ?_ | refine R_r ?_); (conv => whnf); first | (refine ⟨fun hb => ?_, fun hb => ?_⟩ <;> try exact no_way) | refine A_o ?_ | refine B_o ?_ | refine C_o ?_ | refine R_o ?_ | refine fR ?_ | refine fRk ?_ | refine F_o ?_) | refine SA_l ?_ | refine V_l ?_ | refine L_l ?_ | refine Q_l ?_ | refine X_l ?_ | refine Xa_l ?_ | refine Xs_l ?_ | refine K_l ?_ | refine Ka_l ?_ | refine Lk_l ?_ | refine Up_l ?_ | refine Del_l ?_ | refine St_l ?_ | refine LU_l ?_ | refine Xw_l ?_ | refine Le_l ?_ | refine Se_l ?_ | refine M_l ?_ | refine A_l ?_ | refine A0_l ?_ | refine A1_l ?_ | refine Mk_l ?_ | refine Kz_l ?_ | refine W_l ?_ | refine SA_d ?_ | refine V_d ?_ | refine L_d ?_ | refine Q_d ?_ | refine X_d ?_ | refine Xs_d ?_ | refine K_d ?_ | refine Ka_d ?_ | refine Lk_d ?_ | refine Up_d ?_ | refine A_d ?_ | refine A0_d ?_ | refine St_d ?_ | refine LU_d ?_ | refine Xw_d ?_ | refine Le_d ?_ | refine Se_d ?_ | refine M_d ?_ | refine Mk_d ?_ | refine N_d ?_ | refine Kz_d ?_ | refine W_d ?_ | fail)
      · rw [hb] at hr
        rw [e7]; exact rE (hnx [] ep hr (by simp))
      · rw [hb, Bool.or_true] at hr
        rw [e7]; exact rE (hnx [] ep hr (by simp))
      · simp only [‹(x == ⟨#[]⟩) = false›, ‹(x == ⟨#[46]⟩) = false›, Bool.or_false, cond_false, show (x == ⟨#[46, 46]⟩) = false from by simpa using hb] at hr
        have g := hnx ([] ++ [x]) ep hr (by simp)
        rw [List.map_append] at g
        rw [e7]; exact rE g
      · simp only [‹(x == ⟨#[]⟩) = false›, ‹(x == ⟨#[46]⟩) = false›, Bool.or_false, cond_false, show (x == ⟨#[46, 46]⟩) = true from by simpa using ‹(!x == ⟨#[46, 46]⟩) = false›, List.isEmpty_nil, cond_true] at hr
        rw [hr]; exact ⟨rfl, rfl⟩
    | false =>
      have hpos : 0 < out.length := by
        cases out with
        | nil => cases h0
        | cons a b => simp
      have k1 : ((((out.map strrow).length : Int)) == 0) = false := by rw [beq_eq_false_iff_ne, List.length_map]; omega
      have k2 := drop_rows out hpos (by omega)
      have k3 := drop_len out hpos (by omega)
      have k4 : 0 ≤ IntKind.i64.wrap (((out.map strrow).length : Int) - 1) := by rw [List.length_map, wrap_ok (by omega) (by omega)]; omega
      have k5 : IntKind.i64.wrap (((out.map strrow).length : Int) - 1) ≤ (out.map strrow).length := by rw [List.length_map, wrap_ok (by omega) (by omega)]; omega
      clear ih
      refine wR (gI ?_)
      repeat' (first | ((first | refine C_r ?_ | refine C0_r ?_ | refine O_r ?_ | refine R_r ?_); (conv => whnf); first | (refine ⟨fun hb => ?_, fun hb => ?_⟩ <;> try exact no_way) | refine A_o ?_ | refine B_o ?_ | refine C_o ?_ | refine R_o ?_ | refine fR ?_ | refine fRk ?_ | refine F_o ?_) | refine Kb_l ?_ | refine SA_l ?_ | refine V_l ?_ | refine L_l ?_ | refine Q_l ?_ | refine X_l ?_ | refine Xa_l ?_ | refine Xs_l ?_ | refine K_l ?_ | refine Ka_l ?_ | refine Lk_l ?_ | refine Up_l ?_ | refine Del_l ?_ | refine St_l ?_ | refine LU_l ?_ | refine Xw_l ?_ | refine Le_l ?_ | refine Se_l ?_ | refine M_l ?_ | refine A_l ?_ | refine A0_l ?_ | refine A1_l ?_ | refine Mk_l ?_ | refine Kz_l ?_ | refine W_l ?_ | refine SA_d ?_ | refine V_d ?_ | refine L_d ?_ | refine Q_d ?_ | refine X_d ?_ | refine Xs_d ?_ | refine K_d ?_ | refine Ka_d ?_ | refine Lk_d ?_ | refine Up_d ?_ | refine A_d ?_ | refine A0_d ?_ | refine St_d ?_ | refine LU_d ?_ | refine Xw_d ?_ | refine Le_d ?_ | refine Se_d ?_ | refine M_d ?_ | refine Mk_d ?_ | refine N_d ?_ | refine Kz_d ?_ | refine W_d ?_ | fail)
      · rw [hb] at hr
        rw [e7]; exact rE (hnx out ep hr (by omega))
      · rw [hb, Bool.or_true] at hr
        rw [e7]; exact rE (hnx out ep hr (by omega))
      · simp only [‹(x == ⟨#[]⟩) = false›, ‹(x == ⟨#[46]⟩) = false›, Bool.or_false, cond_false, show (x == ⟨#[46, 46]⟩) = false from by simpa using hb] at hr
        have g := hnx (out ++ [x]) ep hr (by rw [List.length_append, List.length_singleton]; omega)
        rw [List.map_append] at g
        rw [e7]; exact rE g
      · simp only [‹(x == ⟨#[]⟩) = false›, ‹(x == ⟨#[46]⟩) = false›, Bool.or_false, cond_false, show (x == ⟨#[46, 46]⟩) = true from by simpa using ‹(!x == ⟨#[46, 46]⟩) = false›, h0, cond_true] at hr
        rw [e7]; exact rE (hnx out.dropLast (ep + 1) hr (by rw [List.length_dropLast]; omega))
end Go.Proofs.YtcmhpjnafkpofaaDoor
