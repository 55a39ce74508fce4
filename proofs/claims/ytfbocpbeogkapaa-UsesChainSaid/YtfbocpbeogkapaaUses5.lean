/- A part of a proof: functions of the program, walked over the abstract machine. -/
import Derived.Test.YtfbocpbeogkapaaUses4
import Derived.Test.YtfbocpbeogkapaaAssoc
set_option linter.unusedVariables false
set_option linter.unusedSimpArgs false
namespace Go.Proofs.Ytfbocpbeogkapaa
open Go Go.Am Go.Proofs
attribute [local irreducible] W WL DL WO RoundEnd
set_option maxRecDepth 10000
set_option maxHeartbeats 4000000
abbrev AL (α : Type) := List (ByteArray × α)
/-- what is kept while policies are put together -/
structure Fl where
  within : AL Unit
  known : AL (List Part)
  out : List Part
def encP (ps : List Part) (n : ByteArray) : Am.FV := .agg [.d (.sc (.string n)), .d (.list (ps.map Part.row))]
def entsM (l : AL (List Part)) : MapE := l.map fun p => (.string p.1, encP p.2 p.1)
def encW (_ : Unit) : Am.FV := .one (.d (.sc (.bool true)))
def encK (l : List Part) : Am.FV := .one (.d (.list (l.map Part.row)))
theorem pure_m (l : AL (List Part)) : pureE (entsM l) := by
  intro L; simp only [entsM, List.all_map, List.all_eq_true]; intro x _; rfl
theorem pure_w (l : AL Unit) : pureE (ents encW l) := by
  intro L; simp only [ents, List.all_map, List.all_eq_true]; intro x _; rfl
theorem pure_k (l : AL (List Part)) : pureE (ents encK l) := by
  intro L; simp only [ents, List.all_map, List.all_eq_true]; intro x _; rfl
theorem findKey_m (k : ByteArray) : ∀ (l : AL (List Part)) (i : Nat), findKey (.string k) (entsM l) i = some ((fk k l i).map fun p => (p.1, encP p.2 k))
  | [], i => rfl
  | (k', v) :: r, i => by
    show (match keyEq (.string k) (.string k') with
      | some true => some (some (i, encP v k'))
      | some false => findKey (.string k) (entsM r) (i + 1)
      | none => none) = _
    rw [findKey_m k r (i + 1)]
    simp only [keyEq, fk, ba_beq]
    by_cases h : k = k'
    · subst h; simp
    · simp [h]
/-- the program's way, in Lean; m: policies by name; n: how deep at most -/
def addF (s : Fl) (l : List Part) : Int × Fl := (addE (s.out ++ l), { s with out := s.out ++ l })
def partsF (g : Fl → ByteArray → Int × Fl) : Fl → List Part → Int × Fl
  | s, [] => (0, s)
  | s, x :: r =>
    let q := if x.use = ⟨#[]⟩ then addF s [x] else g s x.use
    if q.1 = 0 then partsF g q.2 r else q
def setK {α : Type} (l : AL α) (k : ByteArray) (v : α) : AL α :=
  match fk k l 0 with
  | some (i, _) => l.set i (k, v)
  | none => l ++ [(k, v)]
def delK {α : Type} (l : AL α) (k : ByteArray) : AL α :=
  match fk k l 0 with
  | some (i, _) => l.eraseIdx i
  | none => l
def polF (m : AL (List Part)) : Nat → Fl → ByteArray → Int × Fl
  | 0, s, _ => (0, s)
  | n + 1, s, name =>
    match fk name m 0 with
    | none => (7, s)
    | some (_, ps) => match fk name s.within 0 with
      | some _ => (5, s)
      | none => match fk name s.known 0 with
        | some (_, l) => addF s l
        | none =>
          let r := partsF (polF m n) { s with within := s.within ++ [(name, ())] } ps
          if r.1 = 0 then (0, { within := delK r.2.within name, known := setK r.2.known name (r.2.out.drop s.out.length), out := r.2.out }) else r
@[reducible] def stF (m : AL (List Part)) (s : Fl) : St := flatSt (entsM m) (ents encW s.within) (ents encK s.known) s.out
/-- a part's contract out of a policy's -/
theorem partR (m : AL (List Part)) (n : Nat) (s : Fl) (x : Part) (ho : s.out.length ≤ 500)
    (hp : x.use ≠ ⟨#[]⟩ → Am.Spec Try.prog 26 [.one (.ptr 3 0), str x.use] (stF m s) (fun v s' => v = int .i64 (polF m n s x.use).1 ∧ s' = stF m (polF m n s x.use).2)) :
    Am.Spec Try.prog 33 [.one (.ptr 3 0), .agg (x.row.map .d)] (stF m s)
      (fun v s' => v = int .i64 (if x.use = ⟨#[]⟩ then addF s [x] else polF m n s x.use).1 ∧ s' = stF m (if x.use = ⟨#[]⟩ then addF s [x] else polF m n s x.use).2) := by
  have ha := addR (entsM m) (ents encW s.within) (ents encK s.known) (pure_m _) (pure_w _) (pure_k _) s.out [x] (by omega) (by simp)
  obtain ⟨xu, ⟨xk, xd⟩, xr⟩ := x
  by_cases he : xu = ⟨#[]⟩
  · subst he
    simp only [if_true]
    refine Spec.body (C := cx [] 16) fits (fn := Try.f33) Try.func33 rfl (by decide) (by decide) (gI ?_)
    repeat' (first
    | refine fR ?_ (h6 := under6 (pure_m _) (pure_w _) (pure_k _))
    | ((first | refine gC fits mixed ?_ | refine gC0 fits mixed ?_ | refine gO fits mixed ?_ | refine gR fits mixed ?_); (conv => whnf); first | (refine ⟨fun hb => ?_, fun hb => ?_⟩ <;> try first | (simp only [Bool.not_true, Bool.not_false, Bool.true_eq_false, Bool.false_eq_true, reduceCtorEq] at hb; done) | (simp only [decide_eq_true_eq, decide_eq_false_iff_not, beq_iff_eq, beq_eq_false_iff_ne, bne_iff_ne, bne_eq_false_iff_eq, ne_eq, List.length_map, List.length_cons, List.length_nil, List.length_append, Bool.not_eq_true', Bool.not_eq_false'] at hb; exfalso; omega) | (exfalso; simp [ba_beq, IntKind.wrap, IntKind.bits, IntKind.signed] at hb; done)) | (show W _ _ _ _ _) | (show ∀ k, WL _ _ _ k _ _ _) | (show ∀ k, DL _ _ _ k _ _ _ _) | (show RoundEnd _ _ _ _ _) | refine fR ?_ | (show _ ∧ Go.Am.Fin _ _ _ _ _ _))
    | (show ∀ k, WL _ _ _ k _ _ _; first | refine fun k => WL.crp [0, 1, 2, 3, 4] (stF m s) _ _ ha (oW ?_ _) (under6 (pure_m _) (pure_w _) (pure_k _)) (under7 (pure_m _) (pure_w _) (pure_k _)) | refine fun k => lSA fits (oW ?_ _) | refine fun k => lL fits (oW ?_ _) | refine fun k => lQ fits (oW ?_ _) | refine fun k => lX fits (oW ?_ _) | refine fun k => lXa fits (oW ?_ _) | refine fun k => lK fits (oW ?_ _) | refine fun k => lKa fits (oW ?_ _) | refine fun k => lLk fits (oW ?_ _) | refine fun k => lUp fits (oW ?_ _) | refine fun k => lDel fits (oW ?_ _) | refine fun k => lSt fits (oW ?_ _) | refine fun k => lLU fits (oW ?_ _) | refine fun k => lM fits (oW ?_ _) | refine fun k => lA fits (oW ?_ _) | refine fun k => lA0 fits (oW ?_ _) | refine fun k => lA1 fits (oW ?_ _) | refine fun k => lMk fits (oW ?_ _) | refine fun k => lW fits (oW ?_ _)))
    exact ⟨rfl, rfl⟩
  · simp only [if_neg he]
    have hp' := hp he
    refine Spec.body (C := cx [] 16) fits (fn := Try.f33) Try.func33 rfl (by decide) (by decide) (gI ?_)
    repeat' (first
    | refine fR ?_ (h6 := under6 (pure_m _) (pure_w _) (pure_k _))
    | ((first | refine gC fits mixed ?_ | refine gC0 fits mixed ?_ | refine gO fits mixed ?_ | refine gR fits mixed ?_); (conv => whnf); first | (refine ⟨fun hb => ?_, fun hb => ?_⟩ <;> try first | (simp only [Bool.not_true, Bool.not_false, Bool.true_eq_false, Bool.false_eq_true, reduceCtorEq] at hb; done) | (simp only [decide_eq_true_eq, decide_eq_false_iff_not, beq_iff_eq, beq_eq_false_iff_ne, bne_iff_ne, bne_eq_false_iff_eq, ne_eq, List.length_map, List.length_cons, List.length_nil, List.length_append, Bool.not_eq_true', Bool.not_eq_false'] at hb; exfalso; omega) | (exfalso; simp [ba_beq, IntKind.wrap, IntKind.bits, IntKind.signed] at hb; done)) | (show W _ _ _ _ _) | (show ∀ k, WL _ _ _ k _ _ _) | (show ∀ k, DL _ _ _ k _ _ _ _) | (show RoundEnd _ _ _ _ _) | refine fR ?_ | (show _ ∧ Go.Am.Fin _ _ _ _ _ _))
    | (show ∀ k, WL _ _ _ k _ _ _; first | refine fun k => WL.crp [0, 1, 2, 3, 4] (stF m s) _ _ hp' (oW ?_ _) (under6 (pure_m _) (pure_w _) (pure_k _)) (under7 (pure_m _) (pure_w _) (pure_k _)) | refine fun k => lSA fits (oW ?_ _) | refine fun k => lL fits (oW ?_ _) | refine fun k => lQ fits (oW ?_ _) | refine fun k => lX fits (oW ?_ _) | refine fun k => lXa fits (oW ?_ _) | refine fun k => lK fits (oW ?_ _) | refine fun k => lKa fits (oW ?_ _) | refine fun k => lLk fits (oW ?_ _) | refine fun k => lUp fits (oW ?_ _) | refine fun k => lDel fits (oW ?_ _) | refine fun k => lSt fits (oW ?_ _) | refine fun k => lLU fits (oW ?_ _) | refine fun k => lM fits (oW ?_ _) | refine fun k => lA fits (oW ?_ _) | refine fun k => lA0 fits (oW ?_ _) | refine fun k => lA1 fits (oW ?_ _) | refine fun k => lMk fits (oW ?_ _) | refine fun k => lW fits (oW ?_ _)))
    · exact ⟨rfl, rfl⟩
    · exact absurd hb (by simp [ba_beq, he])
end Go.Proofs.Ytfbocpbeogkapaa
