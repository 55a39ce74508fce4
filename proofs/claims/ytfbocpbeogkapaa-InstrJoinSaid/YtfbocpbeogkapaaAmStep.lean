/- The abstract machine: walking. The rules in the form in which they are applied, one after the other. -/
import Derived.Test.YtfbocpbeogkapaaAmFn
set_option linter.unusedVariables false
set_option linter.unusedSimpArgs false
namespace Go.Am

/-! forms that are worked out -/
/-- a number as a numeral -/
def fNat : Nat → Option Nat
  | 0 => some 0
  | 1 => some 1
  | 2 => some 2
  | 3 => some 3
  | 4 => some 4
  | 5 => some 5
  | 6 => some 6
  | 7 => some 7
  | 8 => some 8
  | 9 => some 9
  | 10 => some 10
  | 11 => some 11
  | 12 => some 12
  | 13 => some 13
  | 14 => some 14
  | 15 => some 15
  | 16 => some 16
  | 17 => some 17
  | 18 => some 18
  | 19 => some 19
  | 20 => some 20
  | 21 => some 21
  | 22 => some 22
  | 23 => some 23
  | 24 => some 24
  | 25 => some 25
  | 26 => some 26
  | 27 => some 27
  | 28 => some 28
  | 29 => some 29
  | 30 => some 30
  | 31 => some 31
  | 32 => some 32
  | 33 => some 33
  | 34 => some 34
  | 35 => some 35
  | 36 => some 36
  | 37 => some 37
  | 38 => some 38
  | 39 => some 39
  | n => some n
theorem fNat_eq (n : Nat) : fNat n = some n := by unfold fNat; split <;> rfl
def fV : V → Option V
  | .agg cs => match fL cs with
    | some cs => some (.agg cs)
    | none => none
  | .tup xs => match fL xs with
    | some xs => some (.tup xs)
    | none => none
  | .one c => match c with
    | .rptr ds => match fL ds with
      | some ds => some (.one (.rptr ds))
      | none => none
    | .fn f a b => match fL a, fL b with
      | some a, some b => some (.one (.fn f a b))
      | _, _ => none
    | .d x => some (.one (.d x))
    | .arr a b c => match fNat a with
      | some a => some (.one (.arr a b c))
      | none => none
    | .ptr a b => match fNat a, fNat b with
      | some a, some b => some (.one (.ptr a b))
      | _, _ => none
    | .eptr a b c d e f => some (.one (.eptr a b c d e f))
    | .map a => match fNat a with
      | some a => some (.one (.map a))
      | none => none
  | .undef => some .undef
theorem fV_eq (v : V) : fV v = some v := by
  cases v with
  | one c => cases c <;> simp [fV, fL_eq, fNat_eq]
  | _ => simp [fV, fL_eq]
def fO : Ob → Option Ob
  | .var cs => match fL cs with
    | some cs => some (.var cs)
    | none => none
  | .arr a b c d => match fNat c with
    | some c => some (.arr a b c d)
    | none => none
  | .map es => some (.map es)
  | .dead => some .dead
theorem fO_eq (o : Ob) : fO o = some o := by cases o <;> simp [fO, fL_eq, fNat_eq]
def fS : St → Option St
  | [] => some []
  | o :: r => match fO o, fS r with
    | some o, some r => some (o :: r)
    | _, _ => none
theorem fS_eq : ∀ σ : St, fS σ = some σ
  | [] => rfl
  | o :: r => by simp [fS, fO_eq, fS_eq r]
/-- the variables of a list, as they stand -/
def pick : List Nat → Env → Option Env
  | [], _ => some []
  | t :: r, e => match Env.get e t, pick r e with
    | some v, some e' => some ((t, v) :: e')
    | _, _ => none
theorem pick_sub : ∀ {l : List Nat} {e e' : Env}, pick l e = some e' → Sub e' e
  | [], e, e', h => by simp only [pick, Option.some.injEq] at h; subst h; intro t v h; simp [Env.get] at h
  | s :: r, e, e', h => by
    simp only [pick] at h
    cases hg : Env.get e s with
    | none => simp [hg] at h
    | some v =>
    cases hr : pick r e with
    | none => simp [hg, hr] at h
    | some e2 =>
    simp only [hg, hr, Option.some.injEq] at h; subst h
    intro t u ht
    simp only [Env.get] at ht
    cases hb : Nat.beq s t with
    | true =>
      rw [hb] at ht; simp only [cond_true, Option.some.injEq] at ht; subst ht
      rw [← Nat.eq_of_beq_eq_true hb]; exact hg
    | false => rw [hb] at ht; exact pick_sub hr t u ht

/-! regions, operation by operation -/
def idxs : List Oper → Nat → List Nat
  | [], _ => []
  | _ :: r, k => k :: idxs r (k + 1)
theorem idxs_range : ∀ (l : List Oper) (k : Nat), idxs l k = List.range' k l.length
  | [], _ => rfl
  | _ :: r, k => by rw [idxs, idxs_range r (k + 1)]; rfl

def WL (C : Cx) (all l : List Oper) (k : Nat) (e : Env) (σ : St) (Q : Env → St → Prop) : Prop :=
  (∀ j o, l[j]? = some o → all[k + j]? = some o) → WO C all.toArray (idxs l k) e σ Q

section
variable {C : Cx} {all l : List Oper} {k : Nat} {e : Env} {σ : St} {o : Oper}

theorem W.reg {id : Nat} {Q : Ex → Env → St → Prop} (h : WL C all all 0 e σ fun e' σ' => Q .normal e' σ') : W C (.region id all.toArray false) e σ Q := by
  refine W.region ?_
  have := h (fun j o hj => by simpa using hj)
  rw [idxs_range] at this
  simpa [List.range_eq_range'] using this

/-- a region's end: the variables that are needed further on -/
theorem WL.nil {Q : Env → St → Prop} (ls : List Nat) {e' : Env} {σ' : St} (hp : pick ls e = some e') (hσ : fS σ = some σ') (h : Q e' σ') : WL C all [] k e σ Q := by
  rw [fS_eq] at hσ; injection hσ with hσ; subst hσ
  exact fun _ κ w a hs => (WO.nil (Q := Q) (C := C) (ops := all.toArray) (e := e') h) κ w a (hs.sub (pick_sub hp))

theorem WL.tail {Q : Env → St → Prop} (hall : ∀ j p, (o :: l)[j]? = some p → all[k + j]? = some p) (h : WL C all l (k + 1) e σ Q) : WO C all.toArray (idxs l (k + 1)) e σ Q :=
  h fun j p hj => by have := hall (j + 1) p (by simpa using hj); rw [show k + 1 + j = k + (j + 1) from by omega]; exact this
theorem head_of (hall : ∀ j p, (o :: l)[j]? = some p → all[k + j]? = some p) : all.toArray[k]? = some o := by
  have := hall 0 o rfl; simpa using this

variable {Q : Env → St → Prop}

theorem WL.skip (hg : guardOk e all o = some false) (hd : dstOk C.n o = true) (h : WL C all l (k + 1) (Env.put e o.dst .undef) σ Q) : WL C all (o :: l) k e σ Q :=
  fun hall => WO.skip (head_of hall) (by simpa using hg) hd (WL.tail hall h)

/-- a quiet operation -/
theorem WL.q (hT : C.T.fits C.P) (hg : guardOk e all o = some true) (hd : dstOk C.n o = true) (hm : makes C o = false)
    {v v' : V} (hop : aop C 0 e σ o = some (v, [])) (hv : fV v = some v') (h : WL C all l (k + 1) (Env.put e o.dst v') σ Q) : WL C all (o :: l) k e σ Q := by
  rw [fV_eq] at hv; injection hv with hv; subst hv
  exact fun hall => WO.val hT (head_of hall) (by simpa using hg) hd hm hop (WL.tail hall h)

/-- an operation that writes -/
theorem WL.w (hT : C.T.fits C.P) (hg : guardOk e all o = some true) (hd : dstOk C.n o = true) (hm : makes C o = false)
    {v v' : V} {u : Upd} {σ' : St} (hop : aop C 0 e σ o = some (v, u)) (hv : fV v = some v') (hσ : fS (σ.upd u) = some σ') (h : WL C all l (k + 1) (Env.put e o.dst v') σ' Q) : WL C all (o :: l) k e σ Q := by
  rw [fV_eq] at hv; injection hv with hv; subst hv
  rw [fS_eq] at hσ; injection hσ with hσ; subst hσ
  exact fun hall => WO.val hT (head_of hall) (by simpa using hg) hd hm hop (WL.tail hall h)

/-- an operation that makes an object -/
theorem WL.m (hT : C.T.fits C.P) (hg : guardOk e all o = some true) (hd : dstOk C.n o = true)
    {v v' : V} {u : Upd} {σ' : St} (hop : aop C σ.length e (σ ++ [.dead]) o = some (v, u)) (hv : fV v = some v') (hσ : fS (St.upd (σ ++ [.dead]) u) = some σ')
    (h : WL C all l (k + 1) (Env.put e o.dst v') σ' Q) : WL C all (o :: l) k e σ Q := by
  rw [fV_eq] at hv; injection hv with hv; subst hv
  rw [fS_eq] at hσ; injection hσ with hσ; subst hσ
  exact fun hall => WO.make hT (head_of hall) (by simpa using hg) hd hop (WL.tail hall h)

/-- a call of a function that only computes -/
theorem WL.c (hg : guardOk e all o = some true) (hd : dstOk C.n o = true) {f : FuncId} {vs vs' : List V} {r : V} (hc : calleeOf e o = some (f, vs)) (hsn : snapVs (fun id => σ[id]?) vs = some vs')
    (hni : vs'.all noIds = true) (hS : Comp C.P f vs' r) (hr : noIds r = true) (h : WL C all l (k + 1) (Env.put e o.dst r) σ Q) : WL C all (o :: l) k e σ Q :=
  fun hall => WO.call (head_of hall) (by simpa using hg) hd hc hsn hni hS (fun r' σ' ⟨h1, h2⟩ => ⟨h2, by rw [h1]; exact hr⟩) (fun r' ⟨h1, _⟩ => by rw [h1]; exact WL.tail hall h)
end
end Go.Am
