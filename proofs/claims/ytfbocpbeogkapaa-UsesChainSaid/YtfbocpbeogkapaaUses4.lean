/- A part of a proof: functions of the program, walked over the abstract machine. -/
import Derived.Test.YtfbocpbeogkapaaUses3
set_option linter.unusedVariables false
set_option linter.unusedSimpArgs false
namespace Go.Proofs.Ytfbocpbeogkapaa
open Go Go.Am Go.Proofs
attribute [local irreducible] W WL DL WO RoundEnd
set_option maxRecDepth 10000
set_option maxHeartbeats 4000000
abbrev MapE := List (Value × Am.FV)
/-- entries that are data -/
def pureE (E : MapE) : Prop := ∀ L, (E.all fun x => x.2.under L) = true
@[reducible] def flatSt (E1 E2 E3 : MapE) (out : List Part) : St :=
  [.map E1, .map E2, .map E3, .var [.map 0, .map 1, .map 2, .arr 4 0 (out.map Part.row).length], .arr 0 false 4 (out.map Part.row)]
theorem under6 {E1 E2 E3 : MapE} (h1 : pureE E1) (h2 : pureE E2) (h3 : pureE E3) {n ep ep' k : Nat} {m : Bool} {rows : List (List D)} :
    ([Ob.map E1, .map E2, .map E3, .var [.map 0, .map 1, .map 2, .arr 4 ep n], .arr ep' m k rows].all fun o => o.under (alive [Ob.map E1, .map E2, .map E3, .var [.map 0, .map 1, .map 2, .arr 4 ep n], .arr ep' m k rows])) = true := by
  simp only [List.all_cons, List.all_nil, Ob.under, h1 _, h2 _, h3 _, Bool.true_and, Bool.and_true]
  rfl
theorem under7 {E1 E2 E3 : MapE} (h1 : pureE E1) (h2 : pureE E2) (h3 : pureE E3) {n ep ep' k : Nat} {m : Bool} {rows : List (List D)} :
    ([Ob.map E1, .map E2, .map E3, .var [.map 0, .map 1, .map 2, .arr 4 ep n], .arr ep' m k rows].all fun o => o.under (Am.inR [0, 1, 2, 3, 4])) = true := by
  simp only [List.all_cons, List.all_nil, Ob.under, h1 _, h2 _, h3 _, Bool.true_and, Bool.and_true]
  rfl
def addE (out : List Part) : Int := if out.length > 500 then 9 else 0
theorem addR (E1 E2 E3 : MapE) (g1 : pureE E1) (g2 : pureE E2) (g3 : pureE E3) (out l : List Part) (h1 : out.length ≤ 600) (h2 : l.length ≤ 600) : Am.Spec Try.prog 32 [.one (.ptr 3 0), lst Part.row l] (flatSt E1 E2 E3 out)
    (fun x s => x = int .i64 (addE (out ++ l)) ∧ s = flatSt E1 E2 E3 (out ++ l)) := by
  refine Spec.body (C := cx [] 20) fits (fn := Try.f32) Try.func32 rfl (by decide) (by decide) (gI ?_)
  repeat' (first
    | refine fR ?_ (h6 := under6 g1 g2 g3)
    | ((first | refine gC fits mixed ?_ | refine gC0 fits mixed ?_ | refine gO fits mixed ?_ | refine gR fits mixed ?_); (conv => whnf); first | (refine ⟨fun hb => ?_, fun hb => ?_⟩ <;> try first | (simp only [Bool.not_true, Bool.not_false, Bool.true_eq_false, Bool.false_eq_true, reduceCtorEq] at hb; done) | (simp only [decide_eq_true_eq, decide_eq_false_iff_not, beq_iff_eq, beq_eq_false_iff_ne, bne_iff_ne, bne_eq_false_iff_eq, ne_eq, List.length_map, List.length_cons, List.length_nil, List.length_append, Bool.not_eq_true', Bool.not_eq_false'] at hb; exfalso; omega) | (exfalso; simp [ba_beq, IntKind.wrap, IntKind.bits, IntKind.signed] at hb; done)) | (show W _ _ _ _ _) | (show ∀ k, WL _ _ _ k _ _ _) | (show ∀ k, DL _ _ _ k _ _ _ _) | (show RoundEnd _ _ _ _ _) | refine fR ?_ | (show _ ∧ Go.Am.Fin _ _ _ _ _ _))
    | (show ∀ k, WL _ _ _ k _ _ _; first | refine fun k => lSA fits (oW ?_ _) | refine fun k => lL fits (oW ?_ _) | refine fun k => lQ fits (oW ?_ _) | refine fun k => lX fits (oW ?_ _) | refine fun k => lXa fits (oW ?_ _) | refine fun k => lK fits (oW ?_ _) | refine fun k => lKa fits (oW ?_ _) | refine fun k => lLk fits (oW ?_ _) | refine fun k => lUp fits (oW ?_ _) | refine fun k => lDel fits (oW ?_ _) | refine fun k => lSt fits (oW ?_ _) | refine fun k => lLU fits (oW ?_ _) | refine fun k => lM fits (oW ?_ _) | refine fun k => lA fits (oW ?_ _) | refine fun k => lA0 fits (oW ?_ _) | refine fun k => lA1 fits (oW ?_ _) | refine fun k => lMk fits (oW ?_ _) | refine fun k => lW fits (oW ?_ _)))
  · exact ⟨by rw [addE, if_pos (by simp at hb; simp; omega)]; rfl, by simp only [flatSt, List.map_append]⟩
  · exact ⟨by rw [addE, if_neg (by simp at hb; simp; omega)]; rfl, by simp only [flatSt, List.map_append]⟩
end Go.Proofs.Ytfbocpbeogkapaa
