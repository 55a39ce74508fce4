/- A part of a proof: functions of the program, walked over the abstract machine. -/
import Derived.Test.YtcplpllbinilmaaLab13
set_option linter.unusedVariables false
set_option linter.unusedSimpArgs false
namespace Go.Proofs.Ytcplpllbinilmaa
open Go Go.Am Go.Proofs
attribute [local irreducible] W WL DL WO RoundEnd
set_option maxRecDepth 10000
set_option maxHeartbeats 4000000
set_option linter.unusedVariables false
set_option linter.unusedSimpArgs false
def getI (pl : List Int) (n : Int) : Int := (pl[n.toNat]?).getD 0
def tgtF (m : LM) (pl : List Int) (i : Int) (x : Sym) : Int × Int := (getI pl (goesF m i x.t).1, getI pl (goesF m i x.f).1)
def pairV (p : Int × Int) : V := .agg [.d (.sc (.int .i64 p.1)), .d (.sc (.int .i64 p.2))]
theorem getI_row {pl : List Int} {n : Int} (h0 : 0 ≤ n) (h1 : n < pl.length) : (pl.map i64row)[n.toNat]? = some (i64row (getI pl n)) := by
  rw [List.getElem?_map, getI]
  have : pl[n.toNat]? = some (pl[n.toNat]'(by omega)) := List.getElem?_eq_getElem (by omega)
  rw [this]; rfl
theorem targetsR (l : List Sym) (m : LM) (nn : Nat) (pl : List Int) (fa : List (Bool × Bool)) (i : Nat) (x : Sym) (hl : l.length < 2 ^ 40) (hn : nn = (pl.map i64row).length) (hx : l[i]? = some x)
    (ht : 0 ≤ (goesF m i x.t).1 ∧ (goesF m i x.t).1 < pl.length) (hf : 0 ≤ (goesF m i x.f).1 ∧ (goesF m i x.f).1 < pl.length) :
    Am.Spec Try.prog 49 [.one (.ptr 3 0), int .i64 i] (linkS l m nn pl fa) (fun v σ => v = pairV (tgtF m pl i x) ∧ σ = linkS l m nn pl fa) := by
  have hi := (List.getElem?_eq_some_iff.1 hx).1
  have c3 := goesR l m nn pl fa i x.t (by omega) (by omega)
  have c4 := goesR l m nn pl fa i x.f (by omega) (by omega)
  have hro : (l.map Sym.row)[((i : Nat) : Int).toNat]? = some (Sym.row x) := by
    rw [List.getElem?_map]
    show Option.map Sym.row l[i]? = _
    rw [hx]; rfl
  have r1 := getI_row ht.1 ht.2
  have r2 := getI_row hf.1 hf.2
  have h0 : 0 ≤ ((i : Nat) : Int) := by omega
  have h1 := ht.1
  have h2 := hf.1
  obtain ⟨xl, xt, xf, xc, xk⟩ := x
  unfold tgtF
  simp only at c3 c4 r1 r2 h1 h2 ⊢
  clear ht hf
  generalize goesF m i xt = gt at *
  generalize goesF m i xf = gf at *
  obtain ⟨gt1, gt2⟩ := gt
  obtain ⟨gf1, gf2⟩ := gf
  simp only at r1 r2 h1 h2 ⊢
  generalize getI pl gt1 = q1 at *
  generalize getI pl gf1 = q2 at *
  refine Spec.body (C := cx [] 52) fits (fn := Try.f49) Try.func49 rfl (by decide) (by decide) (gI ?_)
  repeat' (first | refine fR ?_ (h6 := linkU l m nn pl fa) | ((first | refine C_r ?_ | refine O_r ?_ | refine R_r ?_); (conv => whnf); first | (refine ⟨fun hb => ?_, fun hb => ?_⟩ <;> try exact no_way) | refine B_o ?_ | refine C_o ?_ | refine F_o ?_) | refine fun k => WL.crp [0, 1, 2, 3] (linkS l m nn pl fa) _ _ c3 (oW ?_ _) (linkU l m nn pl fa) (linkR l m nn pl fa) | refine fun k => WL.crp [0, 1, 2, 3] (linkS l m nn pl fa) _ _ c4 (oW ?_ _) (linkU l m nn pl fa) (linkR l m nn pl fa) | refine X_l ?_ | refine Xw_d ?_ | refine Le_d ?_ | fail)
  all_goals exact ⟨rfl, rfl⟩
end Go.Proofs.Ytcplpllbinilmaa
