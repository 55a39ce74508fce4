/- A part of a proof: functions of the program, walked over the abstract machine. -/
import Derived.Test.YtceccgnpkelpkaaTree4
set_option linter.unusedVariables false
set_option linter.unusedSimpArgs false
namespace Go.Proofs.Ytceccgnpkelpkaa
open Go Go.Am Go.Proofs
attribute [local irreducible] W WL DL WO RoundEnd
set_option maxRecDepth 10000
set_option maxHeartbeats 4000000
theorem alive11 : Comp Try.prog 9 [] (bool true) := by
  have c1 := nameR ⟨#[85, 83, 69]⟩ (by decide)
  rw [show nameF ⟨#[85, 83, 69]⟩ = false by decide +kernel] at c1
  have c2 := nameR ⟨#[97, 95, 49]⟩ (by decide)
  rw [show nameF ⟨#[97, 95, 49]⟩ = true by decide +kernel] at c2
  have c3 := numberR 20 (.mk 7 ⟨#[]⟩ ⟨#[]⟩ 3 []) (by simp [Ex.size, Ex.sizes]) ⟨by decide, trivial⟩
  rw [show numF 20 (.mk 7 ⟨#[]⟩ ⟨#[]⟩ 3 []) = true by decide +kernel] at c3
  have c4 := depth0
  refine Spec.body (C := cx [] 15) fits (fn := Try.f9) Try.func9 rfl (by decide) (by decide) (gI ?_)
  repeat' (first
    | ((first | refine gC fits mixed ?_ | refine gC0 fits mixed ?_ | refine gO fits mixed ?_ | refine gR fits mixed ?_); (conv => whnf); first | (refine ⟨fun hb => ?_, fun hb => ?_⟩ <;> try first | (simp only [Bool.not_true, Bool.not_false, Bool.true_eq_false, Bool.false_eq_true, reduceCtorEq] at hb; done) | exact Bool.noConfusion (hb.symm.trans (by assumption) : true = false) | exact Bool.noConfusion (hb.symm.trans (by assumption) : false = true) | (simp only [decide_eq_true_eq, decide_eq_false_iff_not, beq_iff_eq, beq_eq_false_iff_ne, bne_iff_ne, bne_eq_false_iff_eq, ne_eq, List.length_map, List.length_cons, List.length_nil, List.length_append, Bool.not_eq_true', Bool.not_eq_false'] at hb; exfalso; omega) | (exfalso; simp [ba_beq, IntKind.wrap, IntKind.bits, IntKind.signed] at hb; done)) | (show W _ _ _ _ _) | (show ∀ k, WL _ _ _ k _ _ _) | (show ∀ k, DL _ _ _ k _ _ _ _) | (show RoundEnd _ _ _ _ _) | refine fR ?_ | (show _ ∧ Go.Am.Fin _ _ _ _ _ _))
    | (show ∀ k, WL _ _ _ k _ _ _; first | refine fun k => lC (c1) (oW ?_ _) | refine fun k => lC (c2) (oW ?_ _) | refine fun k => lC (c3) (oW ?_ _) | refine fun k => lC (c4) (oW ?_ _) | refine fun k => lSA fits (oW ?_ _) | refine fun k => lL fits (oW ?_ _) | refine fun k => lQ fits (oW ?_ _) | refine fun k => lX fits (oW ?_ _) | refine fun k => lXa fits (oW ?_ _) | refine fun k => lXs fits (oW ?_ _) | refine fun k => lK fits (oW ?_ _) | refine fun k => lKa fits (oW ?_ _) | refine fun k => lLk fits (oW ?_ _) | refine fun k => lUp fits (oW ?_ _) | refine fun k => lDel fits (oW ?_ _) | refine fun k => lSt fits (oW ?_ _) | refine fun k => lLU fits (oW ?_ _) | refine fun k => lM fits (oW ?_ _) | refine fun k => lA fits (oW ?_ _) | refine fun k => lA0 fits (oW ?_ _) | refine fun k => lA1 fits (oW ?_ _) | refine fun k => lMk fits (oW ?_ _) | refine fun k => lW fits (oW ?_ _)))
  exact ⟨rfl, rfl⟩
abbrev xE : ByteArray := ⟨#[]⟩
abbrev xN : Ex := .mk 7 xE xE 3 []
abbrev xA : Ex := .mk 5 xE ⟨#[97]⟩ 0 []
abbrev xC : Ex := .mk 4 ⟨#[60]⟩ xE 0 [xA, xN]
abbrev xM : Ex := .mk 6 xE ⟨#[97]⟩ 0 [xN]
abbrev xB : Ex := .mk 8 xE xE 0 [xN, xA]
abbrev kinds : List Ex := [xN, xA, xC, xM, xB, .mk 8 xE xE 0 [xA, xB], .mk 8 xE xE 0 [xB, xA], .mk 1 xE xE 0 [xC, xC], .mk 2 xE xE 0 [xC], .mk 3 xE xE 0 [xC], .mk 3 xE xE 0 [xN],
  .mk 4 ⟨#[60]⟩ xE 0 [xM, xB], .mk 4 ⟨#[60]⟩ xE 0 [xB, xM], .mk 4 ⟨#[61]⟩ xE 0 [xA, xN], .mk 4 ⟨#[60]⟩ xE 0 [xN, xN], .mk 5 xE ⟨#[85, 83, 69]⟩ 0 [], .mk 5 xE ⟨#[49, 97]⟩ 0 [], .mk 7 ⟨#[60]⟩ xE 1 [], .mk 0 xE xE 0 []]
abbrev kNum : List Bool := [true, true, false, false, true, false, true, false, false, false, false, false, false, false, false, false, false, false, false]
abbrev kCond : List Bool := [false, false, true, false, false, false, false, true, false, true, false, true, false, false, false, false, false, false, false]
def brow (b : Bool) : List D := [.sc (.bool b)]
mutual
def nokB : Ex → Bool
  | .mk _ _ n _ l => decide (n.size < 2 ^ 60) && noksB l
def noksB : List Ex → Bool
  | [] => true
  | x :: l => nokB x && noksB l
end
mutual
theorem nokB_ok : ∀ e : Ex, nokB e = true → e.nok
  | .mk _ _ n _ l, h => by
    simp only [nokB, Bool.and_eq_true, decide_eq_true_eq] at h
    exact ⟨h.1, noksB_ok l h.2⟩
theorem noksB_ok : ∀ l : List Ex, noksB l = true → Ex.noks l
  | [], _ => trivial
  | x :: l, h => by
    simp only [noksB, Bool.and_eq_true] at h
    exact ⟨nokB_ok x h.1, noksB_ok l h.2⟩
end
theorem kinds_ok : ((List.range 19).all fun i => match kinds[i]?, kNum[i]?, kCond[i]? with
    | some x, some b, some c => (numF 20 x == b && boolF 20 x == c) && (decide (x.size < 20) && nokB x)
    | _, _, _ => false) = true := by decide +kernel
theorem kinds_get {i : Nat} (h : i < 19) : ∃ x b c, kinds[i]? = some x ∧ kNum[i]? = some b ∧ kCond[i]? = some c ∧ numF 20 x = b ∧ boolF 20 x = c ∧ x.size < 20 ∧ x.nok := by
  have hk := List.all_eq_true.1 kinds_ok i (by simpa using h)
  split at hk
  · rename_i x b c h1 h2 h3
    simp only [Bool.and_eq_true, beq_iff_eq, decide_eq_true_eq] at hk
    exact ⟨x, b, c, h1, h2, h3, hk.1.1, hk.1.2, hk.2.1, nokB_ok x hk.2.2⟩
  · simp at hk
theorem kindsR (n : Int) : Comp Try.prog 3 [int .i64 n] (bool true) := by
  have c0 := alive11
  by_cases hn : 0 ≤ n ∧ n < 19
  · obtain ⟨x, b, c, h1, h2, h3, h4, h5, h6, h7⟩ := kinds_get (i := n.toNat) (by omega)
    have c1 := numberR 20 x h6 h7
    have c2 := boolR 20 x h6 h7
    rw [h4] at c1
    rw [h5] at c2
    have g1 := at_of (f := Ex.row) h1
    have g2 := at_of (f := brow) h2
    have g3 := at_of (f := brow) h3
    obtain ⟨kd, o, nm, u, l⟩ := x
    refine Spec.body (C := cx [] 110) fits (fn := Try.f3) Try.func3 rfl (by decide) (by decide) (gI ?_)
    repeat' (first
    | ((first | refine gC fits mixed ?_ | refine gC0 fits mixed ?_ | refine gO fits mixed ?_ | refine gR fits mixed ?_); (conv => whnf); first | (refine ⟨fun hb => ?_, fun hb => ?_⟩ <;> try first | (simp only [Bool.not_true, Bool.not_false, Bool.true_eq_false, Bool.false_eq_true, reduceCtorEq] at hb; done) | exact Bool.noConfusion (hb.symm.trans (by assumption) : true = false) | exact Bool.noConfusion (hb.symm.trans (by assumption) : false = true) | (simp only [decide_eq_true_eq, decide_eq_false_iff_not, beq_iff_eq, beq_eq_false_iff_ne, bne_iff_ne, bne_eq_false_iff_eq, ne_eq, List.length_map, List.length_cons, List.length_nil, List.length_append, Bool.not_eq_true', Bool.not_eq_false'] at hb; exfalso; omega) | (exfalso; simp [ba_beq, IntKind.wrap, IntKind.bits, IntKind.signed] at hb; done)) | (show W _ _ _ _ _) | (show ∀ k, WL _ _ _ k _ _ _) | (show ∀ k, DL _ _ _ k _ _ _ _) | (show RoundEnd _ _ _ _ _) | refine fR ?_ | (show _ ∧ Go.Am.Fin _ _ _ _ _ _))
    | (show ∀ k, WL _ _ _ k _ _ _; first | refine fun k => lC (c0) (oW ?_ _) | refine fun k => lC (c1) (oW ?_ _) | refine fun k => lC (c2) (oW ?_ _) | refine fun k => lSA fits (oW ?_ _) | refine fun k => lL fits (oW ?_ _) | refine fun k => lQ fits (oW ?_ _) | refine fun k => lX fits (oW ?_ _) | refine fun k => lXa fits (oW ?_ _) | refine fun k => lXs fits (oW ?_ _) | refine fun k => lK fits (oW ?_ _) | refine fun k => lKa fits (oW ?_ _) | refine fun k => lLk fits (oW ?_ _) | refine fun k => lUp fits (oW ?_ _) | refine fun k => lDel fits (oW ?_ _) | refine fun k => lSt fits (oW ?_ _) | refine fun k => lLU fits (oW ?_ _) | refine fun k => lM fits (oW ?_ _) | refine fun k => lA fits (oW ?_ _) | refine fun k => lA0 fits (oW ?_ _) | refine fun k => lA1 fits (oW ?_ _) | refine fun k => lMk fits (oW ?_ _) | refine fun k => lW fits (oW ?_ _))
    | (show ∀ k, DL _ _ _ k _ _ _ _; first | refine fun k => dC (c0) (oD ?_ _) | refine fun k => dC (c1) (oD ?_ _) | refine fun k => dC (c2) (oD ?_ _) | refine fun k => dSA fits (oD ?_ _) | refine fun k => dL fits (oD ?_ _) | refine fun k => dQ fits (oD ?_ _) | refine fun k => dX fits (oD ?_ _) | refine fun k => dXs fits (oD ?_ _) | refine fun k => dK fits (oD ?_ _) | refine fun k => dKa fits (oD ?_ _) | refine fun k => dLk fits (oD ?_ _) | refine fun k => dUp fits (oD ?_ _) | refine fun k => dA fits (oD ?_ _) | refine fun k => dA0 fits (oD ?_ _) | refine fun k => dSt fits (oD ?_ _) | refine fun k => dLU fits (oD ?_ _) | refine fun k => dM fits (oD ?_ _) | refine fun k => dN fits (oD ?_ _) | refine fun k => dW fits (oD ?_ _)))
    all_goals first | exact ⟨rfl, rfl⟩ | (exfalso; clear c0 c1 c2 g1 g2 g3 h1 h2 h3 h4 h5 h6 h7; simp_all; done)
  · refine Spec.body (C := cx [] 110) fits (fn := Try.f3) Try.func3 rfl (by decide) (by decide) (gI ?_)
    repeat' (first
    | ((first | refine gC fits mixed ?_ | refine gC0 fits mixed ?_ | refine gO fits mixed ?_ | refine gR fits mixed ?_); (conv => whnf); first | (refine ⟨fun hb => ?_, fun hb => ?_⟩ <;> try first | (simp only [Bool.not_true, Bool.not_false, Bool.true_eq_false, Bool.false_eq_true, reduceCtorEq] at hb; done) | exact Bool.noConfusion (hb.symm.trans (by assumption) : true = false) | exact Bool.noConfusion (hb.symm.trans (by assumption) : false = true) | (simp only [decide_eq_true_eq, decide_eq_false_iff_not, beq_iff_eq, beq_eq_false_iff_ne, bne_iff_ne, bne_eq_false_iff_eq, ne_eq, List.length_map, List.length_cons, List.length_nil, List.length_append, Bool.not_eq_true', Bool.not_eq_false'] at hb; exfalso; omega) | (exfalso; simp [ba_beq, IntKind.wrap, IntKind.bits, IntKind.signed] at hb; done)) | (show W _ _ _ _ _) | (show ∀ k, WL _ _ _ k _ _ _) | (show ∀ k, DL _ _ _ k _ _ _ _) | (show RoundEnd _ _ _ _ _) | refine fR ?_ | (show _ ∧ Go.Am.Fin _ _ _ _ _ _))
    | (show ∀ k, WL _ _ _ k _ _ _; first | refine fun k => lC (c0) (oW ?_ _) | refine fun k => lSA fits (oW ?_ _) | refine fun k => lL fits (oW ?_ _) | refine fun k => lQ fits (oW ?_ _) | refine fun k => lX fits (oW ?_ _) | refine fun k => lXa fits (oW ?_ _) | refine fun k => lXs fits (oW ?_ _) | refine fun k => lK fits (oW ?_ _) | refine fun k => lKa fits (oW ?_ _) | refine fun k => lLk fits (oW ?_ _) | refine fun k => lUp fits (oW ?_ _) | refine fun k => lDel fits (oW ?_ _) | refine fun k => lSt fits (oW ?_ _) | refine fun k => lLU fits (oW ?_ _) | refine fun k => lM fits (oW ?_ _) | refine fun k => lA fits (oW ?_ _) | refine fun k => lA0 fits (oW ?_ _) | refine fun k => lA1 fits (oW ?_ _) | refine fun k => lMk fits (oW ?_ _) | refine fun k => lW fits (oW ?_ _))
    | (show ∀ k, DL _ _ _ k _ _ _ _; first | refine fun k => dC (c0) (oD ?_ _) | refine fun k => dSA fits (oD ?_ _) | refine fun k => dL fits (oD ?_ _) | refine fun k => dQ fits (oD ?_ _) | refine fun k => dX fits (oD ?_ _) | refine fun k => dXs fits (oD ?_ _) | refine fun k => dK fits (oD ?_ _) | refine fun k => dKa fits (oD ?_ _) | refine fun k => dLk fits (oD ?_ _) | refine fun k => dUp fits (oD ?_ _) | refine fun k => dA fits (oD ?_ _) | refine fun k => dA0 fits (oD ?_ _) | refine fun k => dSt fits (oD ?_ _) | refine fun k => dLU fits (oD ?_ _) | refine fun k => dM fits (oD ?_ _) | refine fun k => dN fits (oD ?_ _) | refine fun k => dW fits (oD ?_ _)))
    all_goals first | exact ⟨rfl, rfl⟩ | skip
    all_goals
      exfalso
      have a : decide (n < 0) = false := by assumption
      simp at a hb
      omega
theorem kinds_typed {x0 : List D} (y0 : Typed Try.prog 3 x0) : Comp Try.prog 3 [argV (aggTy Try.prog 3) x0] (Am.bool true) := by
  have a0 : aggTy Try.prog 3 = false := by unfold aggTy; rw [Try.underlying3]
  obtain ⟨n, rfl, _⟩ := y0.int_inv Try.underlying3
  rw [a0]
  exact kindsR n
end Go.Proofs.Ytceccgnpkelpkaa
