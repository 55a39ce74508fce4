/- A part of a proof: functions of the program, walked over the abstract machine. -/
import Derived.Test.YtcplpllbinilmaaLab15
set_option linter.unusedVariables false
set_option linter.unusedSimpArgs false
namespace Go.Proofs.Ytcplpllbinilmaa
open Go Go.Am Go.Proofs
attribute [local irreducible] W WL DL WO RoundEnd
set_option maxRecDepth 10000
set_option maxHeartbeats 4000000
set_option linter.unusedVariables false
set_option linter.unusedSimpArgs false
/-- the instructions of a jump with a condition: s: its place; t, f: where it leads; a, b: by a Ja -/
def jumpF (x : Sym) (s t f : Int) (a b : Bool) : List Ins :=
  ⟨x.code, bif a then 0 else t - s - 1, bif b then (bif a then 1 else 0) else f - s - 1, x.k⟩ ::
  ((bif a then [⟨5, 0, 0, IntKind.wrap .u32 (t - s - 2)⟩] else []) ++ (bif b then [⟨5, 0, 0, IntKind.wrap .u32 (f - s - (bif a then 3 else 2))⟩] else []))
theorem jumpR (l : List Sym) (m : LM) (nn : Nat) (pl : List Int) (fa : List (Bool × Bool)) (i : Nat) (x : Sym) (p : Bool × Bool) (hl : l.length < 2 ^ 40) (hn : nn = (pl.map i64row).length) (hn' : nn = (fa.map bbrow).length) (hx : l[i]? = some x) (hp : fa[i]? = some p)
    (hb : ∀ n, 0 ≤ getI pl n ∧ getI pl n ≤ 2 ^ 42)
    (ht : 0 ≤ (goesF m i x.t).1 ∧ (goesF m i x.t).1 < pl.length) (hf : 0 ≤ (goesF m i x.f).1 ∧ (goesF m i x.f).1 < pl.length) (hi : i < pl.length) :
    Am.Spec Try.prog 50 [.one (.ptr 3 0), int .i64 i] (linkS l m nn pl fa) (fun v σ => v = lst Ins.row (jumpF x (getI pl i) (tgtF m pl i x).1 (tgtF m pl i x).2 p.1 p.2) ∧ σ = linkS l m nn pl fa) := by
  have c1 := targetsR l m nn pl fa i x hl hn hx ht hf
  have hro : (l.map Sym.row)[((i : Nat) : Int).toNat]? = some (Sym.row x) := by
    rw [List.getElem?_map]
    show Option.map Sym.row l[i]? = _
    rw [hx]; rfl
  have hrp : (fa.map bbrow)[((i : Nat) : Int).toNat]? = some (bbrow p) := by
    rw [List.getElem?_map]
    show Option.map bbrow fa[i]? = _
    rw [hp]; rfl
  have hpr := getI_row (pl := pl) (n := (i : Int)) (by omega) (by omega)
  have h0 : 0 ≤ ((i : Nat) : Int) := by omega
  have b1 := hb (i : Int)
  have b2 := hb (goesF m i x.t).1
  have b3 := hb (goesF m i x.f).1
  have e1 : (tgtF m pl i x).1 = getI pl (goesF m i x.t).1 := rfl
  have e2 : (tgtF m pl i x).2 = getI pl (goesF m i x.f).1 := rfl
  rw [← e1] at b2
  rw [← e2] at b3
  clear e1 e2 ht hf hb
  generalize tgtF m pl i x = tt at *
  generalize getI pl i = s at *
  obtain ⟨t, f⟩ := tt
  obtain ⟨a, b⟩ := p
  obtain ⟨xl, xt, xf, xc, xk⟩ := x
  simp only at b2 b3
  have w1 : IntKind.wrap .i64 (t - s) = t - s := wrap_okz (by omega) (by omega)
  have w2 : IntKind.wrap .i64 (t - s - 1) = t - s - 1 := wrap_okz (by omega) (by omega)
  have w3 : IntKind.wrap .i64 (f - s) = f - s := wrap_okz (by omega) (by omega)
  have w4 : IntKind.wrap .i64 (f - s - 1) = f - s - 1 := wrap_okz (by omega) (by omega)
  have w5 : IntKind.wrap .i64 (t - s - 1 - 1) = t - s - 2 := by rw [wrap_okz (by omega) (by omega)]; omega
  have w6 : IntKind.wrap .i64 (f - s - 1 - 1) = f - s - 2 := by rw [wrap_okz (by omega) (by omega)]; omega
  have w7 : IntKind.wrap .i64 (f - s - 2 - 1) = f - s - 3 := by rw [wrap_okz (by omega) (by omega)]; omega
  have w8 : IntKind.wrap .i64 (f - s - 2) = f - s - 2 := wrap_okz (by omega) (by omega)
  cases a <;> cases b
  all_goals
    refine Spec.body (C := cx [(30, true)] 82) fits (fn := Try.f50) Try.func50 rfl (by decide) (by decide) (gI ?_)
    repeat' (first | ((first | refine C_r ?_ | refine O_r ?_); (conv => whnf); first | refine A_o ?_ | refine B_o ?_) | refine fun k => WL.crp [0, 1, 2, 3] (linkS l m nn pl fa) _ _ c1 (oW ?_ _) (linkU l m nn pl fa) (linkR l m nn pl fa) | refine X_l ?_ | refine Xw_l ?_ | refine Le_l ?_ | fail)
    refine W.rounds 3 ?_
    refine WR.step (gI ?_)
    repeat' (first | (refine R1_r ?_; (conv => whnf); refine A_o ?_; refine gF 5 ?_) | refine fR ?_ (h6 := linkU l m nn pl fa) | ((first | refine C_r ?_ | refine C0_r ?_ | refine O_r ?_ | refine R_r ?_); (conv => whnf); first | (refine ⟨fun hb => ?_, fun hb => ?_⟩ <;> try exact no_way) | refine A_o ?_ | refine B_o ?_ | refine C_o ?_ | refine F_o ?_) | refine Xw_l ?_ | refine Le_l ?_ | refine W_l ?_ | refine Q_d ?_ | refine W_d ?_ | fail)
  · refine ⟨?_, rfl⟩
    show V.one (.d (.list [[.sc (.int .i64 (xc)), .sc (.int .i64 (IntKind.wrap .i64 (IntKind.wrap .i64 (t - s) - 1))), .sc (.int .i64 (IntKind.wrap .i64 (IntKind.wrap .i64 (f - s) - 1))), .sc (.int .u32 (xk))]])) = lst Ins.row (jumpF ⟨xl, xt, xf, xc, xk⟩ s t f false false)
    simp only [w1, w2, w3, w4, w5, w6, w7, w8]
    rfl
  · refine ⟨?_, rfl⟩
    show V.one (.d (.list [[.sc (.int .i64 (xc)), .sc (.int .i64 (IntKind.wrap .i64 (IntKind.wrap .i64 (t - s) - 1))), .sc (.int .i64 (IntKind.wrap .i64 (1 - 1))), .sc (.int .u32 (xk))], [.sc (.int .i64 (5)), .sc (.int .i64 (0)), .sc (.int .i64 (0)), .sc (.int .u32 (IntKind.wrap .u32 (IntKind.wrap .i64 (IntKind.wrap .i64 (IntKind.wrap .i64 (f - s) - 1) - 1))))]])) = lst Ins.row (jumpF ⟨xl, xt, xf, xc, xk⟩ s t f false true)
    simp only [w1, w2, w3, w4, w5, w6, w7, w8]
    rfl
  · refine ⟨?_, rfl⟩
    show V.one (.d (.list [[.sc (.int .i64 (xc)), .sc (.int .i64 (IntKind.wrap .i64 (1 - 1))), .sc (.int .i64 (IntKind.wrap .i64 (IntKind.wrap .i64 (f - s) - 1))), .sc (.int .u32 (xk))], [.sc (.int .i64 (5)), .sc (.int .i64 (0)), .sc (.int .i64 (0)), .sc (.int .u32 (IntKind.wrap .u32 (IntKind.wrap .i64 (IntKind.wrap .i64 (IntKind.wrap .i64 (t - s) - 1) - 1))))]])) = lst Ins.row (jumpF ⟨xl, xt, xf, xc, xk⟩ s t f true false)
    simp only [w1, w2, w3, w4, w5, w6, w7, w8]
    rfl
  · refine ⟨?_, rfl⟩
    show V.one (.d (.list [[.sc (.int .i64 (xc)), .sc (.int .i64 (IntKind.wrap .i64 (1 - 1))), .sc (.int .i64 (IntKind.wrap .i64 (2 - 1))), .sc (.int .u32 (xk))], [.sc (.int .i64 (5)), .sc (.int .i64 (0)), .sc (.int .i64 (0)), .sc (.int .u32 (IntKind.wrap .u32 (IntKind.wrap .i64 (IntKind.wrap .i64 (IntKind.wrap .i64 (t - s) - 1) - 1))))], [.sc (.int .i64 (5)), .sc (.int .i64 (0)), .sc (.int .i64 (0)), .sc (.int .u32 (IntKind.wrap .u32 (IntKind.wrap .i64 (IntKind.wrap .i64 (IntKind.wrap .i64 (f - s) - 2) - 1))))]])) = lst Ins.row (jumpF ⟨xl, xt, xf, xc, xk⟩ s t f true true)
    simp only [w1, w2, w3, w4, w5, w6, w7, w8]
    rfl
end Go.Proofs.Ytcplpllbinilmaa
