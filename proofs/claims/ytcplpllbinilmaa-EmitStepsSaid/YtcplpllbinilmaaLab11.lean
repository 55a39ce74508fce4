/- A part of a proof: functions of the program, walked over the abstract machine. -/
import Derived.Test.YtcplpllbinilmaaLab10
set_option linter.unusedVariables false
set_option linter.unusedSimpArgs false
namespace Go.Proofs.Ytcplpllbinilmaa
open Go Go.Am Go.Proofs
attribute [local irreducible] W WL DL WO RoundEnd
set_option maxRecDepth 10000
set_option maxHeartbeats 4000000
set_option linter.unusedVariables false
set_option linter.unusedSimpArgs false
/-- may a symbol be? -/
def symF (m : LM) (len : Nat) (i : Int) (x : Sym) : Bool :=
  bif !codeOk x.code then false
  else bif (i == (len : Int) - 1) && !endsF x.code then false
  else bif x.code == 5 then !(x.t == 0) && (goesF m i x.t).2
  else bif isJumpF x.code then (goesF m i x.t).2 && (goesF m i x.f).2
  else true
theorem symbolR (l : List Sym) (m : LM) (nn : Nat) (pl : List Int) (fa : List (Bool × Bool)) (i : Nat) (x : Sym) (hl : l.length < 2 ^ 40) (hx : l[i]? = some x) : Am.Spec Try.prog 46 [.one (.ptr 3 0), int .i64 i] (linkS l m nn pl fa) (fun v σ => v = bool (symF m l.length i x) ∧ σ = linkS l m nn pl fa) := by
  have hi := (List.getElem?_eq_some_iff.1 hx).1
  have c1 := nameR x.code
  have c2 := endsR x.code
  have c3 := goesR l m nn pl fa i x.t (by omega) (by omega)
  have c4 := goesR l m nn pl fa i x.f (by omega) (by omega)
  have c5 := jumpsR x.code
  have hro : (l.map Sym.row)[((i : Nat) : Int).toNat]? = some (Sym.row x) := by
    rw [List.getElem?_map]
    show Option.map Sym.row l[i]? = _
    rw [hx]; rfl
  have hw : IntKind.wrap .i64 (((l.map Sym.row).length : Int) - 1) = (l.length : Int) - 1 := by rw [List.length_map]; exact wrap_okz (by omega) (by omega)
  obtain ⟨xl, xt, xf, xc, xk⟩ := x
  simp only at c1 c2 c3 c4 c5
  have h0 : ((i : Nat) : Int) ≥ 0 := by omega
  generalize hfb : symF m l.length i ⟨xl, xt, xf, xc, xk⟩ = fb
  unfold symF at hfb
  simp only at hfb
  generalize goesF m i xt = gt at *
  generalize goesF m i xf = gf at *
  generalize codeOk xc = ck at *
  generalize endsF xc = ce at *
  generalize knF xc = kn at *
  obtain ⟨gt1, gt2⟩ := gt
  obtain ⟨gf1, gf2⟩ := gf
  simp only at hfb
  have hfin : ∀ b : Bool, b = fb → bool b = bool fb := fun b h => by rw [h]
  cases ck with
  | false =>
    refine Spec.body (C := cx [] 77) fits (fn := Try.f46) Try.func46 rfl (by decide) (by decide) (gI ?_)
    repeat' (first | refine fR ?_ (h6 := linkU l m nn pl fa) | ((first | refine C_r ?_ | refine O_r ?_); (conv => whnf); first | (refine ⟨fun hb => ?_, fun hb => ?_⟩ <;> try exact no_way) | refine B_o ?_ | refine F_o ?_) | refine C_l (c1) ?_ | refine X_l ?_ | fail)
    exact ⟨by rw [← hfb]; rfl, rfl⟩
  | true =>
    rw [Bool.not_true, cond_false] at hfb
    rw [← hw] at hfb
    cases e1 : (((i : Nat) : Int) == IntKind.wrap .i64 (((l.map Sym.row).length : Int) - 1)) with
    | true =>
      rw [e1, Bool.true_and] at hfb
      cases ce with
      | false =>
        refine Spec.body (C := cx [] 77) fits (fn := Try.f46) Try.func46 rfl (by decide) (by decide) (gI ?_)
        repeat' (first | refine fR ?_ (h6 := linkU l m nn pl fa) | ((first | refine C_r ?_ | refine O_r ?_); (conv => whnf); first | (refine ⟨fun hb => ?_, fun hb => ?_⟩ <;> try exact no_way) | refine B_o ?_ | refine F_o ?_) | refine C_l (c1) ?_ | refine C_l (c2) ?_ | refine X_l ?_ | fail)
        exact ⟨by rw [← hfb]; rfl, rfl⟩
      | true =>
        rw [Bool.not_true, cond_false] at hfb
        refine Spec.body (C := cx [] 77) fits (fn := Try.f46) Try.func46 rfl (by decide) (by decide) (gI ?_)
        repeat' (first | refine fR ?_ (h6 := linkU l m nn pl fa) | ((first | refine C_r ?_ | refine O_r ?_); (conv => whnf); first | (refine ⟨fun hb => ?_, fun hb => ?_⟩ <;> try exact no_way) | refine B_o ?_ | refine F_o ?_) | refine C_l (c1) ?_ | refine C_l (c2) ?_ | refine B_l (c5) (fun hb => ?_) fun hb => ?_ | refine fun k => WL.crp [0, 1, 2, 3] (linkS l m nn pl fa) _ _ c3 (oW ?_ _) (linkU l m nn pl fa) (linkR l m nn pl fa) | refine fun k => WL.crp [0, 1, 2, 3] (linkS l m nn pl fa) _ _ c4 (oW ?_ _) (linkU l m nn pl fa) (linkR l m nn pl fa) | refine X_l ?_ | fail)
        all_goals (refine ⟨?_, rfl⟩; rw [← hfb]; dsimp only at *; simp only [*, Bool.not_true, Bool.not_false, cond_true, cond_false, Bool.and_true, Bool.true_and, Bool.and_false, Bool.false_and]; rfl)
    | false =>
      rw [e1, Bool.false_and, cond_false] at hfb
      refine Spec.body (C := cx [] 77) fits (fn := Try.f46) Try.func46 rfl (by decide) (by decide) (gI ?_)
      repeat' (first | refine fR ?_ (h6 := linkU l m nn pl fa) | ((first | refine C_r ?_ | refine O_r ?_); (conv => whnf); first | (refine ⟨fun hb => ?_, fun hb => ?_⟩ <;> try exact no_way) | refine B_o ?_ | refine F_o ?_) | refine C_l (c1) ?_ | refine B_l (c5) (fun hb => ?_) fun hb => ?_ | refine fun k => WL.crp [0, 1, 2, 3] (linkS l m nn pl fa) _ _ c3 (oW ?_ _) (linkU l m nn pl fa) (linkR l m nn pl fa) | refine fun k => WL.crp [0, 1, 2, 3] (linkS l m nn pl fa) _ _ c4 (oW ?_ _) (linkU l m nn pl fa) (linkR l m nn pl fa) | refine X_l ?_ | fail)
      all_goals (refine ⟨?_, rfl⟩; rw [← hfb]; dsimp only at *; simp only [*, Bool.not_true, Bool.not_false, cond_true, cond_false, Bool.and_true, Bool.true_and, Bool.and_false, Bool.false_and]; rfl)
end Go.Proofs.Ytcplpllbinilmaa
