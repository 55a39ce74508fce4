/- A part of a proof: functions of the program, walked over the abstract machine. -/
import Derived.Test.YtcplpllbinilmaaLab11
set_option linter.unusedVariables false
set_option linter.unusedSimpArgs false
namespace Go.Proofs.Ytcplpllbinilmaa
open Go Go.Am Go.Proofs
attribute [local irreducible] W WL DL WO RoundEnd
set_option maxRecDepth 10000
set_option maxHeartbeats 4000000
set_option linter.unusedVariables false
set_option linter.unusedSimpArgs false
theorem trimL {n : Nat} {e : Env} {σ : St} (h1 : (e.all fun p => p.2.under (alive (σ.take n))) = true) (h2 : ((σ.take n).all fun o => o.under (alive (σ.take n))) = true) : trims n e σ = true := by
  rw [trims, h1, h2]; rfl
theorem entsI_append (m : LM) (k v : Int) : entsI (m ++ [(k, v)]) = entsI m ++ [(.int .i64 k, encI v)] := by simp [entsI]
/-- the labels -/
def labF : LM → List Sym → Int → Bool × LM
  | m, [], _ => (true, m)
  | m, x :: r, i => bif decide (x.label < 0) || (fkI x.label m 0).isSome then (false, m) else labF (bif decide (x.label > 0) then m ++ [(x.label, i)] else m) r (i + 1)
def symsF (m : LM) (len : Nat) : List Sym → Int → Bool
  | [], _ => true
  | x :: r, i => symF m len i x && symsF m len r (i + 1)
def rightL (l : List Sym) : Bool := (labF [] l 0).1 && (symsF (labF [] l 0).2 l.length l 0 && !l.isEmpty)
theorem rightLR (l : List Sym) (nn : Nat) (pl : List Int) (fa : List (Bool × Bool)) (hl : l.length < 2 ^ 40) : Am.Spec Try.prog 24 [.one (.ptr 3 0)] (linkS l [] nn pl fa) (fun v σ => v = bool (rightL l) ∧ σ = linkS l (labF [] l 0).2 nn pl fa) := by
  unfold rightL
  generalize hfb : labF [] l 0 = fb
  refine Spec.body (C := cx [] 64) fits (fn := Try.f24) Try.func24 rfl (by decide) (by decide) (gI ?_)
  repeat' (first | (refine C_r ?_; (conv => whnf); first | refine A_o ?_) | fail)
  refine wLoop [0, 11, 12, 13] 4 (l.length + 1) ?_
  refine (fun key => key l [] _ [] rfl rfl hfb.symm :
    (∀ (rest done : List Sym) (j : Int) (m : LM), l = done ++ rest → j = done.length → fb = labF m rest j →
    WR2 _ _ _ _ _ (rest.length + 1) [(0, .one (.ptr 3 0)), (11, lst Sym.row l), (12, int .i64 (l.map Sym.row).length), (13, int .i64 j)] (linkS l m nn pl fa)) → _) ?_
  intro rest
  induction rest with
  | nil =>
    intro done j m h1 hj hr
    have hlen : l.length = done.length := by rw [h1]; simp
    have hr : fb = (true, m) := hr
    subst hr
    refine wR (gI ?_)
    repeat' (first | ((first | refine C_r ?_ | refine O_r ?_); (conv => whnf); first | (refine ⟨fun hb => ?_, fun hb => ?_⟩ <;> try exact no_way) | refine A_o ?_) | fail)
    simp only [Bool.true_and]
    generalize hgb : (symsF m l.length l 0 && !l.isEmpty) = gb
    clear h1 hlen hj hfb
    refine wLoop [0, 49, 50] 4 (l.length + 1) ?_
    refine (fun key => key l [] _ rfl rfl hgb.symm :
      (∀ (rest done : List Sym) (j : Int), l = done ++ rest → j = done.length → gb = (symsF m l.length rest j && !l.isEmpty) →
      WR2 _ _ _ _ _ (rest.length + 1) [(0, .one (.ptr 3 0)), (49, int .i64 (l.map Sym.row).length), (50, int .i64 j)] (linkS l m nn pl fa)) → _) ?_
    intro rest
    induction rest with
    | nil =>
      intro done j h1 hj hr
      have hlen : l.length = done.length := by rw [h1]; simp
      have he : (!l.isEmpty) = decide (((l.map Sym.row).length : Int) > 0) := by
        cases l with
        | nil => rfl
        | cons x r => simp
      rw [symsF, Bool.true_and, he] at hr
      refine wR (gI ?_)
      repeat' (first | refine fR ?_ (h6 := linkU l m nn pl fa) | ((first | refine C_r ?_ | refine O_r ?_); (conv => whnf); first | (refine ⟨fun hb => ?_, fun hb => ?_⟩ <;> try exact no_way) | refine A_o ?_ | refine F_o ?_) | fail)
      all_goals exact ⟨by rw [hr, hb]; rfl, rfl⟩
    | cons x rest ih =>
      intro done j h1 hj hr
      have hlen : l.length = done.length + (rest.length + 1) := by rw [h1]; simp
      have hx : l[done.length]? = some x := by rw [h1]; simp
      have c1 := symbolR l m nn pl fa done.length x hl hx
      rw [← hj] at c1
      rw [symsF] at hr
      have hj1 : IntKind.wrap .i64 (j + 1) = ((done ++ [x]).length : Int) := by rw [wrap_ok (by omega) (by omega)]; simp [hj]
      have hl1 : l = (done ++ [x]) ++ rest := by rw [h1]; simp
      cases hs : symF m l.length j x with
      | true =>
        rw [hs] at c1 hr
        refine wR (gI ?_)
        repeat' (first | ((first | refine C_r ?_ | refine O_r ?_); (conv => whnf); first | (refine ⟨fun hb => ?_, fun hb => ?_⟩ <;> try exact no_way) | refine B_o ?_ | refine R_o ?_) | refine fun k => WL.crp [0, 1, 2, 3] (linkS l m nn pl fa) _ _ c1 (oW ?_ _) (linkU l m nn pl fa) (linkR l m nn pl fa) | fail)
        refine rE (ih _ _ hl1 hj1 ?_) (ht := trimL rfl (linkU l m nn pl fa))
        rw [hr, Bool.true_and, wrap_ok (by omega) (by omega)]
      | false =>
        rw [hs] at c1 hr
        refine wR (gI ?_)
        repeat' (first | refine fR ?_ (h6 := linkU l m nn pl fa) | ((first | refine C_r ?_ | refine O_r ?_); (conv => whnf); first | (refine ⟨fun hb => ?_, fun hb => ?_⟩ <;> try exact no_way) | refine B_o ?_ | refine F_o ?_) | refine fun k => WL.crp [0, 1, 2, 3] (linkS l m nn pl fa) _ _ c1 (oW ?_ _) (linkU l m nn pl fa) (linkR l m nn pl fa) | fail)
        exact ⟨by rw [hr]; rfl, rfl⟩
  | cons x rest ih =>
    intro done j m h1 hj hr
    have hlen : l.length = done.length + (rest.length + 1) := by rw [h1]; simp
    have hj1 : IntKind.wrap .i64 (j + 1) = ((done ++ [x]).length : Int) := by rw [wrap_ok (by omega) (by omega)]; simp [hj]
    have hl1 : l = (done ++ [x]) ++ rest := by rw [h1]; simp
    have hk := findKey_entsI x.label m 0
    rw [labF] at hr
    obtain ⟨xl, xt, xf, xc, xk⟩ := x
    simp only at hr hk
    cases e1 : decide (xl < 0) with
    | true =>
      rw [e1, Bool.true_or, cond_true] at hr
      subst hr
      rcases hf : fkI xl m 0 with _ | ⟨q, n⟩ <;> rw [hf] at hk
      all_goals
        refine wR (gI ?_)
        repeat' (first | refine fR ?_ (h6 := linkU l m nn pl fa) | ((first | refine C_r ?_ | refine O_r ?_ | refine R_r ?_); (conv => whnf); first | (refine ⟨fun hb => ?_, fun hb => ?_⟩ <;> try exact no_way) | refine B_o ?_ | refine C_o ?_ | refine F_o ?_) | refine X_l ?_ | refine Lk_d ?_ | fail)
        exact ⟨rfl, rfl⟩
    | false =>
      rw [e1, Bool.false_or] at hr
      rcases hf : fkI xl m 0 with _ | ⟨q, n⟩
      · rw [hf] at hk hr
        simp only [Option.isSome, cond_false] at hr
        cases e2 : decide (xl > 0) with
        | true =>
          rw [e2, cond_true] at hr
          refine wR (gI ?_)
          repeat' (first | ((first | refine C_r ?_ | refine O_r ?_ | refine R_r ?_); (conv => whnf); first | (refine ⟨fun hb => ?_, fun hb => ?_⟩ <;> try exact no_way) | refine B_o ?_ | refine C_o ?_ | refine R_o ?_) | refine X_l ?_ | refine Lk_d ?_ | refine Up_d ?_ | fail)
          have g := ih _ _ (m ++ [(xl, j)]) hl1 hj1 (by rw [hr, wrap_ok (by omega) (by omega)])
          unfold linkS at g
          rw [entsI_append] at g
          refine rE g (ht := trimL rfl ?_)
          have := linkU l (m ++ [(xl, j)]) nn pl fa
          unfold linkS at this
          rw [entsI_append] at this
          exact this
        | false =>
          rw [e2, cond_false] at hr
          refine wR (gI ?_)
          repeat' (first | ((first | refine C_r ?_ | refine O_r ?_ | refine R_r ?_); (conv => whnf); first | (refine ⟨fun hb => ?_, fun hb => ?_⟩ <;> try exact no_way) | refine B_o ?_ | refine C_o ?_ | refine R_o ?_) | refine X_l ?_ | refine Lk_d ?_ | fail)
          exact rE (ih _ _ m hl1 hj1 (by rw [hr, wrap_ok (by omega) (by omega)])) (ht := trimL rfl (linkU l m nn pl fa))
      · rw [hf] at hk hr
        simp only [Option.isSome, cond_true] at hr
        subst hr
        refine wR (gI ?_)
        repeat' (first | refine fR ?_ (h6 := linkU l m nn pl fa) | ((first | refine C_r ?_ | refine O_r ?_ | refine R_r ?_); (conv => whnf); first | (refine ⟨fun hb => ?_, fun hb => ?_⟩ <;> try exact no_way) | refine B_o ?_ | refine C_o ?_ | refine F_o ?_) | refine X_l ?_ | refine Lk_d ?_ | fail)
        exact ⟨rfl, rfl⟩
end Go.Proofs.Ytcplpllbinilmaa
