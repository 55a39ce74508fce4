/- The linker: which symbols may be. -/
import Derived.Test.YtcplpllbinilmaaLab9
set_option linter.unusedVariables false
set_option linter.unusedSimpArgs false
namespace Go.Proofs.Ytcplpllbinilmaa
open Go Go.Am Go.Proofs
attribute [local irreducible] W WL DL WO RoundEnd
set_option maxRecDepth 10000
set_option maxHeartbeats 4000000
set_option linter.unusedVariables false
set_option linter.unusedSimpArgs false
abbrev LM := List (Int × Int)
def fkI (k : Int) : LM → Nat → Option (Nat × Int)
  | [], _ => none
  | (k', v) :: r, i => bif k == k' then some (i, v) else fkI k r (i + 1)
def encI (n : Int) : Am.FV := .one (.d (.sc (.int .i64 n)))
def entsI (l : LM) : List (Value × Am.FV) := l.map fun p => (.int .i64 p.1, encI p.2)
theorem findKey_entsI (k : Int) : ∀ (l : LM) (i : Nat), findKey (.int .i64 k) (entsI l) i = some ((fkI k l i).map fun p => (p.1, encI p.2))
  | [], i => rfl
  | (k', v) :: r, i => by
    show (match some (k == k') with
      | some true => some (some (i, encI v))
      | some false => findKey (.int .i64 k) (entsI r) (i + 1)
      | none => none) = _
    rw [findKey_entsI k r (i + 1), fkI]
    cases k == k' <;> rfl
theorem pureI (m : LM) (L : Nat → Bool) : ((entsI m).all fun x => x.2.under L) = true := by
  rw [List.all_eq_true]
  intro x hx
  unfold entsI at hx
  obtain ⟨p, _, rfl⟩ := List.mem_map.1 hx
  rfl
def bbrow (p : Bool × Bool) : List D := [.sc (.bool p.1), .sc (.bool p.2)]
/-- the linker's objects -/
abbrev linkS (l : List Sym) (m : LM) (nn : Nat) (pl : List Int) (fa : List (Bool × Bool)) : St :=
  [.map (entsI m), .arr 0 true 1 (pl.map i64row), .arr 0 true 2 (fa.map bbrow), .var [.d (.list (l.map Sym.row)), .map 0, .arr 1 0 nn, .arr 2 0 nn]]
theorem linkU (l : List Sym) (m : LM) (nn : Nat) (pl : List Int) (fa : List (Bool × Bool)) : ((linkS l m nn pl fa).all fun o => o.under (alive (linkS l m nn pl fa))) = true := by
  simp only [linkS, List.all_cons, List.all_nil, Ob.under, pureI m _, Bool.and_true]
  rfl
theorem linkR (l : List Sym) (m : LM) (nn : Nat) (pl : List Int) (fa : List (Bool × Bool)) : ((linkS l m nn pl fa).all fun o => o.under (Am.inR [0, 1, 2, 3])) = true := by
  simp only [linkS, List.all_cons, List.all_nil, Ob.under, pureI m _, Bool.and_true]
  rfl
def goesF (m : LM) (i label : Int) : Int × Bool := bif label == 0 then (i + 1, true) else match fkI label m 0 with
  | none => (0, false)
  | some (_, n) => (n, decide (n > i))
def goesV (r : Int × Bool) : V := .tup [.one (.d (.sc (.int .i64 r.1))), .one (.d (.sc (.bool r.2)))]
theorem goesR (l : List Sym) (m : LM) (nn : Nat) (pl : List Int) (fa : List (Bool × Bool)) (i label : Int) (h0 : 0 ≤ i) (h1 : i < 2 ^ 60) : Am.Spec Try.prog 61 [.one (.ptr 3 0), int .i64 i, int .i64 label] (linkS l m nn pl fa) (fun v σ => v = goesV (goesF m i label) ∧ σ = linkS l m nn pl fa) := by
  have hw : IntKind.wrap .i64 (i + 1) = i + 1 := wrap_ok (by omega) (by omega)
  have hk := findKey_entsI label m 0
  cases hz : label == 0 with
  | true =>
    have hg : goesF m i label = (i + 1, true) := by unfold goesF; rw [hz]; rfl
    rw [hg]
    refine Spec.body (C := cx [] 30) fits (fn := Try.f61) Try.func61 rfl (by decide) (by decide) (gI ?_)
    repeat' (first | refine fR ?_ (h6 := linkU l m nn pl fa) | ((first | refine C_r ?_ | refine O_r ?_); (conv => whnf); first | (refine ⟨fun hb => ?_, fun hb => ?_⟩ <;> try exact no_way) | refine F_o ?_) | fail)
    exact ⟨by rw [hw]; rfl, rfl⟩
  | false =>
    rcases hf : fkI label m 0 with _ | ⟨q, n⟩
    · have hg : goesF m i label = (0, false) := by unfold goesF; rw [hz, cond_false, hf]
      rw [hg]
      rw [hf] at hk
      refine Spec.body (C := cx [] 30) fits (fn := Try.f61) Try.func61 rfl (by decide) (by decide) (gI ?_)
      repeat' (first | refine fR ?_ (h6 := linkU l m nn pl fa) | ((first | refine C_r ?_ | refine O_r ?_); (conv => whnf); first | (refine ⟨fun hb => ?_, fun hb => ?_⟩ <;> try exact no_way) | refine B_o ?_ | refine F_o ?_) | refine Lk_l ?_ | fail)
      exact ⟨rfl, rfl⟩
    · have hg : goesF m i label = (n, decide (n > i)) := by unfold goesF; rw [hz, cond_false, hf]
      rw [hg]
      rw [hf] at hk
      refine Spec.body (C := cx [] 30) fits (fn := Try.f61) Try.func61 rfl (by decide) (by decide) (gI ?_)
      repeat' (first | refine fR ?_ (h6 := linkU l m nn pl fa) | ((first | refine C_r ?_ | refine O_r ?_); (conv => whnf); first | (refine ⟨fun hb => ?_, fun hb => ?_⟩ <;> try exact no_way) | refine B_o ?_ | refine F_o ?_) | refine Lk_l ?_ | fail)
      all_goals exact ⟨by rw [hb]; rfl, rfl⟩
end Go.Proofs.Ytcplpllbinilmaa
