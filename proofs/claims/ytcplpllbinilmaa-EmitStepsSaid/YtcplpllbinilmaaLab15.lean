/- A part of a proof: functions of the program, walked over the abstract machine. -/
import Derived.Test.YtcplpllbinilmaaLab14
set_option linter.unusedVariables false
set_option linter.unusedSimpArgs false
namespace Go.Proofs.Ytcplpllbinilmaa
open Go Go.Am Go.Proofs
attribute [local irreducible] W WL DL WO RoundEnd
set_option maxRecDepth 10000
set_option maxHeartbeats 4000000
set_option linter.unusedVariables false
set_option linter.unusedSimpArgs false
/-- too far a way -/
def farF (pl : List Int) (i : Nat) (to : Int) : Bool := decide (to - getI pl i - 1 > 255)
def getB (fa : List (Bool × Bool)) (i : Nat) : Bool × Bool := (fa[i]?).getD (false, false)
def sprAt (m : LM) (pl : List Int) (fa : List (Bool × Bool)) (i : Nat) (x : Sym) : Bool × Bool :=
  (!(getB fa i).1 && farF pl i (tgtF m pl i x).1, !(getB fa i).2 && farF pl i (tgtF m pl i x).2)
def sprF (m : LM) (pl : List Int) (mo : Bool) (fa : List (Bool × Bool)) (i : Nat) : List Sym → Bool × List (Bool × Bool)
  | [] => (mo, fa)
  | x :: r => bif isJumpF x.code then
      sprF m pl (mo || (sprAt m pl fa i x).1 || (sprAt m pl fa i x).2) (bif (sprAt m pl fa i x).1 || (sprAt m pl fa i x).2 then fa.set i ((getB fa i).1 || (sprAt m pl fa i x).1, (getB fa i).2 || (sprAt m pl fa i x).2) else fa) (i + 1) r
    else sprF m pl mo fa (i + 1) r
theorem lay_len : ∀ (fa : List (Bool × Bool)) (s : Int), (layF s fa).length = fa.length
  | [], _ => rfl
  | p :: r, s => by rw [layF, List.length_cons, List.length_cons, lay_len r]
theorem lay_mem : ∀ (fa : List (Bool × Bool)) (s v : Int), v ∈ layF s fa → s ≤ v ∧ v ≤ s + 3 * fa.length
  | [], _, _, h => by simp [layF] at h
  | p :: r, s, v, h => by
    rw [layF, List.mem_cons] at h
    have hc := cnt_ge p
    rw [List.length_cons]
    rcases h with rfl | h
    · omega
    · have := lay_mem r _ v h; omega
theorem getI_lay {fa : List (Bool × Bool)} (n : Int) : 0 ≤ getI (layF 0 fa) n ∧ getI (layF 0 fa) n ≤ 3 * fa.length := by
  unfold getI
  rcases h : (layF 0 fa)[n.toNat]? with _ | v
  · show (0 : Int) ≤ 0 ∧ (0 : Int) ≤ 3 * fa.length
    omega
  · have := lay_mem fa 0 v (List.mem_of_getElem? h)
    show (0 : Int) ≤ v ∧ v ≤ 3 * fa.length
    omega
theorem linkUr (l : List Sym) (m : LM) (nn : Nat) (R1 R2 : List (List D)) : (([.map (entsI m), .arr 0 true 1 R1, .arr 0 true 2 R2, .var [.d (.list (l.map Sym.row)), .map 0, .arr 1 0 nn, .arr 2 0 nn]] : St).all fun o => o.under (alive [.map (entsI m), .arr 0 true 1 R1, .arr 0 true 2 R2, .var [.d (.list (l.map Sym.row)), .map 0, .arr 1 0 nn, .arr 2 0 nn]])) = true := by
  simp only [List.all_cons, List.all_nil, Ob.under, pureI m _, Bool.and_true]
  rfl
theorem spreadR (l : List Sym) (m : LM) (nn : Nat) (pl0 : List Int) (fa : List (Bool × Bool)) (hl : l.length < 2 ^ 40) (hpl : pl0.length = l.length) (hfa : fa.length = l.length) (hnn : nn = l.length)
    (hgo : ∀ (i : Nat) (x : Sym), l[i]? = some x → isJumpF x.code = true → (0 ≤ (goesF m i x.t).1 ∧ (goesF m i x.t).1 < l.length) ∧ (0 ≤ (goesF m i x.f).1 ∧ (goesF m i x.f).1 < l.length)) :
    Am.Spec Try.prog 25 [.one (.ptr 3 0)] (linkS l m nn pl0 fa) (fun v σ => v = bool (sprF m (layF 0 fa) false fa 0 l).1 ∧ σ = linkS l m nn (layF 0 fa) (sprF m (layF 0 fa) false fa 0 l).2) := by
  have c0 := layR l m nn pl0 fa hl hpl hfa hnn
  have hll := lay_len fa 0
  have hgl : ∀ n, 0 ≤ getI (layF 0 fa) n ∧ getI (layF 0 fa) n ≤ 3 * fa.length := fun n => getI_lay n
  rw [hfa] at hll hgl
  generalize layF 0 fa = pl at *
  have e2 : nn = (pl.map i64row).length := by rw [List.length_map]; omega
  generalize hfb : sprF m pl false fa 0 l = fb
  refine Spec.body (C := cx [] 65) fits (fn := Try.f25) Try.func25 rfl (by decide) (by decide) (gI ?_)
  repeat' (first | ((first | refine C_r ?_ | refine O_r ?_); (conv => whnf); first | refine A_o ?_ | refine B_o ?_) | refine fun k => WL.crp [0, 1, 2, 3] (linkS l m nn pl0 fa) _ _ c0 (oW ?_ _) (linkU l m nn pl0 fa) (linkR l m nn pl fa) | fail)
  clear c0
  refine wLoop [0, 3, 13, 14, 15] 4 (l.length + 1) ?_
  refine (fun key => key l [] _ false fa rfl rfl hfa hfb.symm :
    (∀ (rest done : List Sym) (j : Int) (mo : Bool) (fa : List (Bool × Bool)), l = done ++ rest → j = done.length → fa.length = l.length → fb = sprF m pl mo fa done.length rest →
    WR2 _ _ _ _ _ (rest.length + 1) [(0, .one (.ptr 3 0)), (3, bool mo), (13, lst Sym.row l), (14, int .i64 (l.map Sym.row).length), (15, int .i64 j)] (linkS l m nn pl fa)) → _) ?_
  clear hfb hfa
  intro rest
  induction rest with
  | nil =>
    intro done j mo fa h1 hj hfa hr
    have hlen : l.length = done.length := by rw [h1]; simp
    rw [sprF] at hr
    subst hr
    refine wR (gI ?_)
    repeat' (first | refine fR ?_ (h6 := linkU l m nn pl fa) | ((first | refine C_r ?_ | refine O_r ?_); (conv => whnf); first | (refine ⟨fun hb => ?_, fun hb => ?_⟩ <;> try exact no_way) | refine A_o ?_ | refine F_o ?_) | fail)
    all_goals first
      | exact ⟨rfl, rfl⟩
      | exact ⟨by rw [hb]; rfl, rfl⟩
  | cons x rest ih =>
    intro done j mo fa h1 hj hfa hr
    have hlen : l.length = done.length + (rest.length + 1) := by rw [h1]; simp
    have hx : l[done.length]? = some x := by rw [h1]; simp
    have hj1 : IntKind.wrap .i64 (j + 1) = ((done ++ [x]).length : Int) := by rw [wrap_ok (by omega) (by omega)]; simp [hj]
    have hl1 : l = (done ++ [x]) ++ rest := by rw [h1]; simp
    have c1 := jumpsR x.code
    have hdl : (done ++ [x]).length = done.length + 1 := by simp
    rw [sprF] at hr
    cases hjm : isJumpF x.code with
    | false =>
      rw [hjm] at c1
      rw [hjm, cond_false, ← hdl] at hr
      obtain ⟨xl, xt, xf, xc, xk⟩ := x
      refine wR (gI ?_)
      repeat' (first | ((first | refine C_r ?_ | refine O_r ?_); (conv => whnf); first | (refine ⟨fun hb => ?_, fun hb => ?_⟩ <;> try exact no_way) | refine B_o ?_ | refine R_o ?_) | refine C_l (c1) ?_ | refine X_l ?_ | fail)
      exact rE (ih _ _ mo fa hl1 hj1 hfa hr) (ht := trimL rfl (linkU l m nn pl fa))
    | true =>
      rw [hjm] at c1
      rw [hjm, cond_true, ← hdl] at hr
      have hgo' := hgo done.length x hx hjm
      have c2 := targetsR l m nn pl fa done.length x hl e2 hx (by omega) (by omega)
      subst hj
      have e1 : nn = (fa.map bbrow).length := by rw [List.length_map]; omega
      obtain ⟨p, hp⟩ : ∃ p, fa[done.length]? = some p := ⟨_, List.getElem?_eq_getElem (by omega)⟩
      have hgb : getB fa done.length = p := by rw [getB, hp]; rfl
      have hro : (fa.map bbrow)[((done.length : Nat) : Int).toNat]? = some (bbrow p) := by
        rw [List.getElem?_map]
        show Option.map bbrow fa[done.length]? = _
        rw [hp]; rfl
      have hrl : (l.map Sym.row)[((done.length : Nat) : Int).toNat]? = some (Sym.row x) := by
        rw [List.getElem?_map]
        show Option.map Sym.row l[done.length]? = _
        rw [hx]; rfl
      have hset : ∀ r, ((fa.map bbrow).set ((done.length : Nat) : Int).toNat r)[((done.length : Nat) : Int).toNat]? = some r := fun r => by
        rw [List.getElem?_set_self (by rw [List.length_map]; omega)]
      have hpr := getI_row (pl := pl) (n := (done.length : Int)) (by omega) (by omega)
      have hb1 := hgl (goesF m done.length x.t).1
      have hb2 := hgl (goesF m done.length x.f).1
      have hb3 := hgl (done.length : Int)
      have h0 : 0 ≤ ((done.length : Nat) : Int) := by omega
      unfold sprAt at hr
      rw [hgb] at hr
      have hf1 : decide (IntKind.wrap .i64 (IntKind.wrap .i64 ((tgtF m pl done.length x).1 - getI pl done.length) - 1) > 255) = farF pl done.length (tgtF m pl done.length x).1 := by
        unfold tgtF farF
        simp only
        rw [wrap_okz (n := getI pl (goesF m done.length x.t).1 - getI pl done.length) (by omega) (by omega), wrap_okz (by omega) (by omega)]
      have hf2 : decide (IntKind.wrap .i64 (IntKind.wrap .i64 ((tgtF m pl done.length x).2 - getI pl done.length) - 1) > 255) = farF pl done.length (tgtF m pl done.length x).2 := by
        unfold tgtF farF
        simp only
        rw [wrap_okz (n := getI pl (goesF m done.length x.f).1 - getI pl done.length) (by omega) (by omega), wrap_okz (by omega) (by omega)]
      have hms : ∀ q, (fa.set done.length q).map bbrow = (fa.map bbrow).set ((done.length : Nat) : Int).toNat (bbrow q) := fun q => by rw [List.map_set]; rfl
      have ih' := fun mo fa hfa hr => ih _ _ mo fa hl1 hj1 hfa hr
      clear hgo' hb1 hb2 hb3 ih
      generalize tgtF m pl done.length x = tt at *
      generalize farF pl done.length tt.1 = d0 at *
      generalize farF pl done.length tt.2 = d1 at *
      generalize getI pl done.length = pq at *
      obtain ⟨t1, t2⟩ := tt
      obtain ⟨a, b⟩ := p
      obtain ⟨xl, xt, xf, xc, xk⟩ := x
      simp only at hr hf1 hf2
      cases a <;> cases b <;> cases d0 <;> cases d1
      all_goals simp only [Bool.not_true, Bool.not_false, Bool.true_and, Bool.false_and, Bool.or_false, Bool.or_true, Bool.false_or, Bool.true_or, cond_true, cond_false] at hr
      all_goals
        have g := ih' _ _ (by simp [hfa]) hr
        unfold linkS at g
        have hs1 := hset [.sc (.bool true), .sc (.bool false)]
        have hs2 : nn = ((fa.map bbrow).set ((done.length : Nat) : Int).toNat [.sc (.bool true), .sc (.bool false)]).length := by rw [List.length_set]; exact e1
        have hs3 := hset [.sc (.bool true), .sc (.bool true)]
        have hs4 : nn = ((fa.map bbrow).set ((done.length : Nat) : Int).toNat [.sc (.bool true), .sc (.bool true)]).length := by rw [List.length_set]; exact e1
        refine wR (gI ?_)
        repeat' (first | ((first | refine C_r ?_ | refine O_r ?_); (conv => whnf); first | (refine ⟨fun hb => ?_, fun hb => ?_⟩ <;> try exact no_way) | refine A_o ?_ | refine B_o ?_) | refine C_l (c1) ?_ | refine fun k => WL.crp [0, 1, 2, 3] (linkS l m nn pl fa) _ _ c2 (oW ?_ _) (linkU l m nn pl fa) (linkR l m nn pl fa) | refine X_l ?_ | fail)
        refine W.rounds 3 ?_
        refine WR.step (gI ?_)
        repeat' (first | ((first | refine C_r ?_ | refine C0_r ?_ | refine O_r ?_); (conv => whnf); first | (refine ⟨fun hb => ?_, fun hb => ?_⟩ <;> try exact no_way) | refine A_o ?_ | refine B_o ?_ | refine R_o ?_) | refine Xw_l ?_ | refine Le_l ?_ | refine Se_l ?_ | fail)
        first
          | exact rE g (ht := trimL rfl (linkUr l m nn _ _))
          | (rw [hms] at g; exact rE g (ht := trimL rfl (linkUr l m nn _ _)))
          | (rw [hms, ← List.set_set (a := [.sc (.bool true), .sc (.bool false)])] at g; exact rE g (ht := trimL rfl (linkUr l m nn _ _)))
end Go.Proofs.Ytcplpllbinilmaa
