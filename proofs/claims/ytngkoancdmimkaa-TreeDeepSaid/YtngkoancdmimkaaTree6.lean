/- A part of a proof: functions of the program, walked over the abstract machine. -/
import Derived.Test.YtngkoancdmimkaaRight2
set_option linter.unusedVariables false
set_option linter.unusedSimpArgs false
namespace Go.Proofs.Ytngkoancdmimkaa
open Go Go.Am Go.Proofs
attribute [local irreducible] W WL DL WO RoundEnd
set_option maxRecDepth 10000
set_option maxHeartbeats 4000000
abbrev eB : ByteArray := ⟨#[]⟩
abbrev fdE : Ex := .mk 5 eB ⟨#[102, 100]⟩ 0 []
abbrev nuE : Ex := .mk 7 eB eB 0 []
def stepX (b : Bool) (x : Ex) : Ex := if b then .mk 1 eB eB 0 [.mk 4 ⟨#[60]⟩ eB 0 [fdE, nuE], x] else .mk 3 eB eB 0 [x]
def chX (b : Bool) : Nat → Ex
  | 0 => .mk 4 ⟨#[61, 61]⟩ eB 0 [fdE, nuE]
  | m + 1 => stepX b (chX b m)
abbrev pS : ByteArray := ⟨#[112]⟩
def unX (x : Ex) : Un := ⟨[], [⟨pS, [⟨eB, ⟨7, 0⟩, [⟨⟨#[114, 101, 97, 100]⟩, [], [x]⟩]⟩]⟩], [pS], ⟨6, 0⟩⟩
def deepB (b : Bool) (m : Nat) : Bool := (depthF (chX b m) == (m : Int) + 2 && boolF ((chX b m).size + 1) (chX b m)) && ((rightF (unX (chX b m)) == decide ((m : Int) + 2 ≤ 30)) && (nokB (chX b m) && decide ((chX b m).size + 1 < 2 ^ 60)))
theorem deep_ok : ((List.range 59).all fun m => deepB true m && deepB false m) = true := by decide +kernel
theorem deep_get {m : Nat} (h : m < 59) (b : Bool) : deepB b m = true := by
  have hk := List.all_eq_true.1 deep_ok m (by simpa using h)
  rw [Bool.and_eq_true] at hk
  cases b
  · exact hk.2
  · exact hk.1
theorem unX_good {x : Ex} (h : x.good) : (unX x).good := by
  have p60 : (1 : Nat) < 2 ^ 60 := by decide
  refine ⟨by simp [unX], by simp [unX], by simp [unX], ?_, by simp [unX], ?_⟩
  · intro p hp
    simp only [unX, List.mem_singleton] at hp; subst hp
    refine ⟨by simp only; decide, by simp, ?_⟩
    intro q hq
    simp only [List.mem_singleton] at hq; subst hq
    refine ⟨by simp only; decide, by simp, ?_⟩
    intro r hr
    simp only [List.mem_singleton] at hr; subst hr
    refine ⟨by simp only; decide, by simp, (by intro s hs; cases hs), by simp, ?_⟩
    intro e he
    simp only [List.mem_singleton] at he; subst he
    exact h
  · intro s hs
    simp only [unX, List.mem_singleton] at hs; subst hs; decide
theorem deepR (n : Int) (b : Bool) : Comp Try.prog 3 [int .i64 n, bool b] (bool true) := by
  have c0 := alive11
  refine Spec.body (C := cx [] 70) fits (fn := Try.f3) Try.func3 rfl (by decide) (by decide) (gI ?_)
  repeat' (first
    | ((first | refine gC fits mixed ?_ | refine gC0 fits mixed ?_ | refine gO fits mixed ?_ | refine gR fits mixed ?_); (conv => whnf); first | (refine ⟨fun hb => ?_, fun hb => ?_⟩ <;> try first | (simp only [Bool.not_true, Bool.not_false, Bool.true_eq_false, Bool.false_eq_true, reduceCtorEq] at hb; done) | exact Bool.noConfusion (hb.symm.trans (by assumption) : true = false) | exact Bool.noConfusion (hb.symm.trans (by assumption) : false = true) | (simp only [decide_eq_true_eq, decide_eq_false_iff_not, beq_iff_eq, beq_eq_false_iff_ne, bne_iff_ne, bne_eq_false_iff_eq, ne_eq, List.length_map, List.length_cons, List.length_nil, List.length_append, Bool.not_eq_true', Bool.not_eq_false'] at hb; exfalso; omega) | (exfalso; simp [ba_beq, IntKind.wrap, IntKind.bits, IntKind.signed] at hb; done)) | (show W _ _ _ _ _) | (show ∀ k, WL _ _ _ k _ _ _) | (show ∀ k, DL _ _ _ k _ _ _ _) | (show RoundEnd _ _ _ _ _) | refine fR ?_ | (show _ ∧ Go.Am.Fin _ _ _ _ _ _))
    | (show ∀ k, WL _ _ _ k _ _ _; first | refine fun k => lC (c0) (oW ?_ _) | refine fun k => lSA fits (oW ?_ _) | refine fun k => lL fits (oW ?_ _) | refine fun k => lQ fits (oW ?_ _) | refine fun k => lX fits (oW ?_ _) | refine fun k => lXa fits (oW ?_ _) | refine fun k => lXs fits (oW ?_ _) | refine fun k => lK fits (oW ?_ _) | refine fun k => lKa fits (oW ?_ _) | refine fun k => lLk fits (oW ?_ _) | refine fun k => lUp fits (oW ?_ _) | refine fun k => lDel fits (oW ?_ _) | refine fun k => lSt fits (oW ?_ _) | refine fun k => lLU fits (oW ?_ _) | refine fun k => lM fits (oW ?_ _) | refine fun k => lA fits (oW ?_ _) | refine fun k => lA0 fits (oW ?_ _) | refine fun k => lA1 fits (oW ?_ _) | refine fun k => lMk fits (oW ?_ _) | refine fun k => lW fits (oW ?_ _)))
  all_goals try exact ⟨rfl, rfl⟩
  have n1 : 2 ≤ n := by
    have h : decide (n < 2) = false := by assumption
    simp at h; omega
  have n2 : n ≤ 60 := by simp at hb; omega
  obtain ⟨N, hN⟩ : ∃ N : Nat, n = N + 2 := ⟨(n - 2).toNat, by omega⟩
  subst hN
  refine wLoop [0, 1, 6, 7] 1 (N + 1) ?_
  refine (fun key => key N 0 _ (by omega) rfl :
    (∀ (r m : Nat) (x : Ex), m + r = N → x = chX b m →
    WR2 _ _ _ _ _ (r + 1) [(0, int .i64 ((N : Int) + 2)), (1, bool b), (6, .one (.ptr 0 0)), (7, int .i64 ((m : Int) + 2))] [.var (x.row.map .d)]) → _) ?_
  intro r
  induction r with
  | succ r ih =>
    intro m x hm hx
    have g := ih (m + 1) (stepX b x) (by omega) (by rw [hx]; rfl)
    have e1 : ((m + 1 : Nat) : Int) + 2 = IntKind.wrap .i64 (((m : Int) + 2) + 1) := by rw [wrap_ok (by omega) (by omega)]; omega
    rw [e1] at g
    clear hx
    obtain ⟨kd, o, nm, u, l⟩ := x
    cases b
    · refine wR (gI ?_)
      repeat' (first
    | ((first | refine gC fits mixed ?_ | refine gC0 fits mixed ?_ | refine gO fits mixed ?_ | refine gR fits mixed ?_); (conv => whnf); first | (refine ⟨fun hb => ?_, fun hb => ?_⟩ <;> try first | (simp only [Bool.not_true, Bool.not_false, Bool.true_eq_false, Bool.false_eq_true, reduceCtorEq] at hb; done) | exact Bool.noConfusion (hb.symm.trans (by assumption) : true = false) | exact Bool.noConfusion (hb.symm.trans (by assumption) : false = true) | (simp only [decide_eq_true_eq, decide_eq_false_iff_not, beq_iff_eq, beq_eq_false_iff_ne, bne_iff_ne, bne_eq_false_iff_eq, ne_eq, List.length_map, List.length_cons, List.length_nil, List.length_append, Bool.not_eq_true', Bool.not_eq_false'] at hb; exfalso; omega) | (exfalso; simp [ba_beq, IntKind.wrap, IntKind.bits, IntKind.signed] at hb; done)) | (show W _ _ _ _ _) | (show ∀ k, WL _ _ _ k _ _ _) | (show ∀ k, DL _ _ _ k _ _ _ _) | (show RoundEnd _ _ _ _ _) | refine fR ?_ | (show _ ∧ Go.Am.Fin _ _ _ _ _ _))
    | (show ∀ k, WL _ _ _ k _ _ _; first | refine fun k => lSA fits (oW ?_ _) | refine fun k => lL fits (oW ?_ _) | refine fun k => lQ fits (oW ?_ _) | refine fun k => lX fits (oW ?_ _) | refine fun k => lXa fits (oW ?_ _) | refine fun k => lXs fits (oW ?_ _) | refine fun k => lK fits (oW ?_ _) | refine fun k => lKa fits (oW ?_ _) | refine fun k => lLk fits (oW ?_ _) | refine fun k => lUp fits (oW ?_ _) | refine fun k => lDel fits (oW ?_ _) | refine fun k => lSt fits (oW ?_ _) | refine fun k => lLU fits (oW ?_ _) | refine fun k => lM fits (oW ?_ _) | refine fun k => lA fits (oW ?_ _) | refine fun k => lA0 fits (oW ?_ _) | refine fun k => lA1 fits (oW ?_ _) | refine fun k => lMk fits (oW ?_ _) | refine fun k => lW fits (oW ?_ _)))
      exact rE g
    · refine wR (gI ?_)
      repeat' (first
    | ((first | refine gC fits mixed ?_ | refine gC0 fits mixed ?_ | refine gO fits mixed ?_ | refine gR fits mixed ?_); (conv => whnf); first | (refine ⟨fun hb => ?_, fun hb => ?_⟩ <;> try first | (simp only [Bool.not_true, Bool.not_false, Bool.true_eq_false, Bool.false_eq_true, reduceCtorEq] at hb; done) | exact Bool.noConfusion (hb.symm.trans (by assumption) : true = false) | exact Bool.noConfusion (hb.symm.trans (by assumption) : false = true) | (simp only [decide_eq_true_eq, decide_eq_false_iff_not, beq_iff_eq, beq_eq_false_iff_ne, bne_iff_ne, bne_eq_false_iff_eq, ne_eq, List.length_map, List.length_cons, List.length_nil, List.length_append, Bool.not_eq_true', Bool.not_eq_false'] at hb; exfalso; omega) | (exfalso; simp [ba_beq, IntKind.wrap, IntKind.bits, IntKind.signed] at hb; done)) | (show W _ _ _ _ _) | (show ∀ k, WL _ _ _ k _ _ _) | (show ∀ k, DL _ _ _ k _ _ _ _) | (show RoundEnd _ _ _ _ _) | refine fR ?_ | (show _ ∧ Go.Am.Fin _ _ _ _ _ _))
    | (show ∀ k, WL _ _ _ k _ _ _; first | refine fun k => lSA fits (oW ?_ _) | refine fun k => lL fits (oW ?_ _) | refine fun k => lQ fits (oW ?_ _) | refine fun k => lX fits (oW ?_ _) | refine fun k => lXa fits (oW ?_ _) | refine fun k => lXs fits (oW ?_ _) | refine fun k => lK fits (oW ?_ _) | refine fun k => lKa fits (oW ?_ _) | refine fun k => lLk fits (oW ?_ _) | refine fun k => lUp fits (oW ?_ _) | refine fun k => lDel fits (oW ?_ _) | refine fun k => lSt fits (oW ?_ _) | refine fun k => lLU fits (oW ?_ _) | refine fun k => lM fits (oW ?_ _) | refine fun k => lA fits (oW ?_ _) | refine fun k => lA0 fits (oW ?_ _) | refine fun k => lA1 fits (oW ?_ _) | refine fun k => lMk fits (oW ?_ _) | refine fun k => lW fits (oW ?_ _)))
      exact rE g
  | zero =>
    intro m x hm hx
    have hm2 : m = N := by omega
    subst hm2
    have hd := deep_get (m := m) (by omega) b
    simp only [deepB, ← hx, Bool.and_eq_true, beq_iff_eq, decide_eq_true_eq] at hd
    obtain ⟨⟨d1, d2⟩, d3, d4, d5⟩ := hd
    have hgood : x.good := ⟨nokB_ok x d4, d5⟩
    have c1 := depthR (x.size + 1) x (Nat.lt_succ_self _) d5
    have c2 := boolR (x.size + 1) x (Nat.lt_succ_self _) hgood.1
    have c3 := rightR (unX x) (unX_good hgood)
    rw [d1] at c1
    rw [d2] at c2
    rw [d3] at c3
    clear d1 d2 d3 d4 d5 hx hgood
    obtain ⟨kd, o, nm, u, l⟩ := x
    refine wR (gI ?_)
    repeat' (first
    | ((first | refine gC fits mixed ?_ | refine gC0 fits mixed ?_ | refine gO fits mixed ?_ | refine gR fits mixed ?_); (conv => whnf); first | (refine ⟨fun hb => ?_, fun hb => ?_⟩ <;> try first | (simp only [Bool.not_true, Bool.not_false, Bool.true_eq_false, Bool.false_eq_true, reduceCtorEq] at hb; done) | exact Bool.noConfusion (hb.symm.trans (by assumption) : true = false) | exact Bool.noConfusion (hb.symm.trans (by assumption) : false = true) | (simp only [decide_eq_true_eq, decide_eq_false_iff_not, beq_iff_eq, beq_eq_false_iff_ne, bne_iff_ne, bne_eq_false_iff_eq, ne_eq, List.length_map, List.length_cons, List.length_nil, List.length_append, Bool.not_eq_true', Bool.not_eq_false'] at hb; exfalso; omega) | (exfalso; simp [ba_beq, IntKind.wrap, IntKind.bits, IntKind.signed] at hb; done)) | (show W _ _ _ _ _) | (show ∀ k, WL _ _ _ k _ _ _) | (show ∀ k, DL _ _ _ k _ _ _ _) | (show RoundEnd _ _ _ _ _) | refine fR ?_ | (show _ ∧ Go.Am.Fin _ _ _ _ _ _))
    | (show ∀ k, WL _ _ _ k _ _ _; first | refine fun k => lC (c1) (oW ?_ _) | refine fun k => lC (c2) (oW ?_ _) | (refine fun k => lCB (c3) (fun h3 => oW ?_ _) (fun h3 => oW ?_ _)) | refine fun k => lSA fits (oW ?_ _) | refine fun k => lL fits (oW ?_ _) | refine fun k => lQ fits (oW ?_ _) | refine fun k => lX fits (oW ?_ _) | refine fun k => lXa fits (oW ?_ _) | refine fun k => lXs fits (oW ?_ _) | refine fun k => lK fits (oW ?_ _) | refine fun k => lKa fits (oW ?_ _) | refine fun k => lLk fits (oW ?_ _) | refine fun k => lUp fits (oW ?_ _) | refine fun k => lDel fits (oW ?_ _) | refine fun k => lSt fits (oW ?_ _) | refine fun k => lLU fits (oW ?_ _) | refine fun k => lM fits (oW ?_ _) | refine fun k => lA fits (oW ?_ _) | refine fun k => lA0 fits (oW ?_ _) | refine fun k => lA1 fits (oW ?_ _) | refine fun k => lMk fits (oW ?_ _) | refine fun k => lW fits (oW ?_ _)))
    all_goals exact ⟨rfl, rfl⟩
theorem deep_typed {x0 x1 : List D} (y0 : Typed Try.prog 3 x0) (y1 : Typed Try.prog 4 x1) : Comp Try.prog 3 [argV (aggTy Try.prog 3) x0, argV (aggTy Try.prog 4) x1] (Am.bool true) := by
  have a0 : aggTy Try.prog 3 = false := by unfold aggTy; rw [Try.underlying3]
  have a1 : aggTy Try.prog 4 = false := by unfold aggTy; rw [Try.underlying4]
  obtain ⟨n, rfl, _⟩ := y0.int_inv Try.underlying3
  obtain ⟨b, rfl⟩ := y1.bool_inv Try.underlying4
  rw [a0, a1]
  exact deepR n b
end Go.Proofs.Ytngkoancdmimkaa
