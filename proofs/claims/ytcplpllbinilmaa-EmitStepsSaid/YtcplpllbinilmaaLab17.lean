/- A part of a proof: functions of the program, walked over the abstract machine. -/
import Derived.Test.YtcplpllbinilmaaLab16
set_option linter.unusedVariables false
set_option linter.unusedSimpArgs false
namespace Go.Proofs.Ytcplpllbinilmaa
open Go Go.Am Go.Proofs
attribute [local irreducible] W WL DL WO RoundEnd
set_option maxRecDepth 10000
set_option maxHeartbeats 4000000
set_option linter.unusedVariables false
set_option linter.unusedSimpArgs false
/-- the instructions of a symbol -/
def insF (m : LM) (pl : List Int) (fa : List (Bool × Bool)) (i : Nat) (x : Sym) : List Ins :=
  bif isJumpF x.code then jumpF x (getI pl i) (tgtF m pl i x).1 (tgtF m pl i x).2 (getB fa i).1 (getB fa i).2
  else bif x.code == 5 then [⟨5, 0, 0, IntKind.wrap .u32 ((tgtF m pl i x).1 - getI pl i - 1)⟩]
  else [⟨x.code, 0, 0, x.k⟩]
theorem instrsR (l : List Sym) (m : LM) (nn : Nat) (pl : List Int) (fa : List (Bool × Bool)) (i : Nat) (x : Sym) (hl : l.length < 2 ^ 40) (hn : nn = (pl.map i64row).length) (hn' : nn = (fa.map bbrow).length) (hx : l[i]? = some x) (hif : i < fa.length)
    (hb : ∀ n, 0 ≤ getI pl n ∧ getI pl n ≤ 2 ^ 42)
    (htf : isJumpF x.code = true ∨ x.code = 5 → (0 ≤ (goesF m i x.t).1 ∧ (goesF m i x.t).1 < pl.length) ∧ 0 ≤ (goesF m i x.f).1 ∧ (goesF m i x.f).1 < pl.length) (hi : i < pl.length) :
    Am.Spec Try.prog 26 [.one (.ptr 3 0), int .i64 i] (linkS l m nn pl fa) (fun v σ => v = lst Ins.row (insF m pl fa i x) ∧ σ = linkS l m nn pl fa) := by
  have hro : (l.map Sym.row)[((i : Nat) : Int).toNat]? = some (Sym.row x) := by
    rw [List.getElem?_map]
    show Option.map Sym.row l[i]? = _
    rw [hx]; rfl
  have h0 : 0 ≤ ((i : Nat) : Int) := by omega
  have cj := jumpsR x.code
  generalize hfb : insF m pl fa i x = fb
  unfold insF at hfb
  cases hj : isJumpF x.code with
  | true =>
    have ht := htf (.inl hj)
    have c1 := jumpR l m nn pl fa i x (getB fa i) hl hn hn' hx (by rw [getB, List.getElem?_eq_getElem hif]; rfl) hb ht.1 ht.2 hi
    rw [hj, cond_true] at hfb
    rw [hfb] at c1
    rw [hj] at cj
    obtain ⟨xl, xt, xf, xc, xk⟩ := x
    refine Spec.body (C := cx [] 46) fits (fn := Try.f26) Try.func26 rfl (by decide) (by decide) (gI ?_)
    repeat' (first | refine fR ?_ (h6 := linkU l m nn pl fa) | ((first | refine C_r ?_ | refine O_r ?_); (conv => whnf); first | refine B_o ?_ | refine F_o ?_) | refine C_l (cj) ?_ | refine fun k => WL.crp [0, 1, 2, 3] (linkS l m nn pl fa) _ _ c1 (oW ?_ _) (linkU l m nn pl fa) (linkR l m nn pl fa) | refine X_l ?_ | fail)
    exact ⟨rfl, rfl⟩
  | false =>
    rw [hj, cond_false] at hfb
    rw [hj] at cj
    cases h5 : x.code == 5 with
    | true =>
      rw [h5, cond_true] at hfb
      have ht := htf (.inr (by simpa using h5))
      have c1 := targetsR l m nn pl fa i x hl hn hx ht.1 ht.2
      have hpr := getI_row (pl := pl) (n := (i : Int)) (by omega) (by omega)
      have b1 := hb (i : Int)
      have b2 := hb (goesF m i x.t).1
      have e1 : (tgtF m pl i x).1 = getI pl (goesF m i x.t).1 := rfl
      rw [← e1] at b2
      clear e1
      generalize tgtF m pl i x = tt at *
      generalize getI pl i = s at *
      obtain ⟨t, f⟩ := tt
      simp only at b2
      have w1 : IntKind.wrap .i64 (t - s) = t - s := wrap_okz (by omega) (by omega)
      have w2 : IntKind.wrap .i64 (t - s - 1) = t - s - 1 := wrap_okz (by omega) (by omega)
      obtain ⟨xl, xt, xf, xc, xk⟩ := x
      refine Spec.body (C := cx [] 46) fits (fn := Try.f26) Try.func26 rfl (by decide) (by decide) (gI ?_)
      repeat' (first | refine fR ?_ (h6 := linkU l m nn pl fa) | ((first | refine C_r ?_ | refine O_r ?_ | refine R_r ?_); (conv => whnf); first | (refine ⟨fun hb => ?_, fun hb => ?_⟩ <;> try exact no_way) | refine B_o ?_ | refine C_o ?_ | refine F_o ?_) | refine C_l (cj) ?_ | refine X_l ?_ | refine fun k => DL.crI [0, 1, 2, 3] (linkS l m nn pl fa) _ _ c1 (oD ?_ _) (linkU l m nn pl fa) | refine Xw_d ?_ | refine Le_d ?_ | fail)
      refine ⟨?_, rfl⟩
      rw [← hfb]
      show V.one (.d (.list [[.sc (.int .i64 5), .sc (.int .i64 0), .sc (.int .i64 0), .sc (.int .u32 (IntKind.wrap .u32 (IntKind.wrap .i64 (IntKind.wrap .i64 (t - s) - 1))))]])) = _
      rw [w1, w2]
      rfl
    | false =>
      rw [h5, cond_false] at hfb
      obtain ⟨xl, xt, xf, xc, xk⟩ := x
      refine Spec.body (C := cx [] 46) fits (fn := Try.f26) Try.func26 rfl (by decide) (by decide) (gI ?_)
      repeat' (first | refine fR ?_ (h6 := linkU l m nn pl fa) | ((first | refine C_r ?_ | refine O_r ?_); (conv => whnf); first | (refine ⟨fun hb => ?_, fun hb => ?_⟩ <;> try exact no_way) | refine B_o ?_ | refine F_o ?_) | refine C_l (cj) ?_ | refine X_l ?_ | fail)
      exact ⟨by rw [← hfb]; rfl, rfl⟩
end Go.Proofs.Ytcplpllbinilmaa
